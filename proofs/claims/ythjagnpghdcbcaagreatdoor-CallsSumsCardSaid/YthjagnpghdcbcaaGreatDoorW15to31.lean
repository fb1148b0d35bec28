/-
  Sorting: the library's contract (elements of k cells), as a call of states.
  Maps, as lists of keys and values.
  Texts in order; calls whose end is said anew.
  Slices of one's own: many at once, a part written anew, parts of them.
  Parts of a slice of one's own, and a part of one element written anew.
  Outcomes that differ in the numbers of new blocks only come to one.
  Outcomes that differ in the numbers of new blocks only come to one: the calls.
  Sorting in place, in plain text: places, exchanges, parts that are put in another order.
  Parts of a slice are written at once; what is cleared; neighbours that are alike.
  Parts of slices that have been handed in.
  Sorting that leaves equals in their order, in plain text.
  Loops over functions: what a function hands on, one by one.
  Many elements put to a slice that has none and no room.
  Lists that are marked, and grown while they live on; make with a number that is not known; copies.
  Lists that came out are their owner's: all are marked, all are grown, all are looked at.
  A call that hands back two lists of its own, as one thing.
  Slices that are cut in two.
-/
import Derived.Test.YthjagnpghdcbcaaGreatDoorW13to14
import Derived.Test.YthjagnpghdcbcaaGreatDoorEng34
import Derived.Shelf.SlSortCmp.NoneTotal
import Derived.Test.YthjagnpghdcbcaaGreatDoorW8to12
import Derived.Test.YthjagnpghdcbcaaGreatDoorW5to7
namespace Go.Eng
open Go.Proofs
noncomputable section
variable {P : Program} {D : Tab}
theorem Kept.refl (w : World) : Kept w w := ⟨rfl, rfl, Nat.le_refl _, fun _ _ => rfl, rfl, Nat.le_refl _⟩
theorem Kept.trans {w w1 w2 : World} (h : Kept w w1) (h' : Kept w1 w2) : Kept w w2 :=
 ⟨h'.os.trans h.os, h'.out.trans h.out, Nat.le_trans h.size h'.size, fun r hr => (h'.keep r (Nat.lt_of_lt_of_le hr h.size)).trans (h.keep r hr), h'.tape.trans h.tape, Nat.le_trans h.dr h'.dr⟩
theorem Kept.grown {w w' : World} (h : Kept w w') : ∃ q os', w' = Sort.grow (w.drewN q) os' := by
 refine ⟨w'.drawn - w.drawn, w'.heap.extract w.heap.size w'.heap.size, ?_⟩
 have hh : w'.heap = w.heap ++ w'.heap.extract w.heap.size w'.heap.size := by
  apply Array.ext_getElem?
  intro i
  by_cases hi : i < w.heap.size
  ·rw [h.keep i hi, Array.getElem?_append_left hi]
  ·rw [Array.getElem?_append_right (by omega), Array.getElem?_extract]
   have := h.size
   split
   ·congr 1; omega
   ·rw [Array.getElem?_eq_none_iff]; omega
 have hd := h.dr
 have h1 := h.os
 have h2 := h.out
 have h3 := h.tape
 obtain ⟨hp, tp, dr, o, out⟩ := w
 obtain ⟨hp', tp', dr', o', out'⟩ := w'
 simp only at *
 subst h1 h2 h3
 unfold Sort.grow World.drewN
 simp only [World.mk.injEq, and_true, true_and]
 exact ⟨hh, by omega⟩
theorem Kept.grow (w : World) (q : Nat) (os : Array Obj) : Kept w (Sort.grow (w.drewN q) os) :=
 ⟨rfl, rfl, by simp [Sort.grow, World.drewN], fun r hr => by simp [Sort.grow, World.drewN, Array.getElem?_append_left hr], rfl, by simp [Sort.grow, World.drewN]⟩
theorem Rel.kept {φ : Phi} {s : St} {w w' : World} (h : Rel φ s w) (k : Kept w w') : Rel φ s w' :=
 ⟨fun b o hb => by
  rcases h.obj b o hb with hv | ⟨r, sh, ro, h1, h2, h3⟩
  ·exact .inl hv
  ·have := (Array.getElem?_eq_some_iff.1 h2).1
   exact .inr ⟨r, sh, ro, h1, by rw [k.keep r this]; exact h2, h3⟩, h.inj, h.fresh, h.freshc, h.glob, h.gnx, h.facts⟩
theorem Stp.kept {w w' : World} (φ : Phi) (s : St) (k : Kept w w') : Stp φ s w φ s w' :=
 ⟨Phi.le.rfl' φ, fun b _ sh h h' => .inr ⟨b, sh, h, h'⟩, fun b _ sh h h' => .inr ⟨b, sh, h, h'⟩, fun r hr _ => k.keep r hr, k.size, k.os, k.out, k.tape, Nat.le_refl _, Nat.le_refl _, fun _ _ => rfl, fun r arr e fz hx => by
  have := (Array.getElem?_eq_some_iff.1 hx).1
  exact ⟨arr, fz, by rw [k.keep r this]; exact hx, rfl⟩, k.dr⟩
def PT.fmap {α β : Type} (f : α → Option β) : PT α → PT β
 | .nil => .nil
 | .nd l v r => .nd (fmap f l) (v.bind f) (fmap f r)
theorem PT.get_fmap {α β : Type} (f : α → Option β) : ∀ (t : PT α) (k : Nat), (PT.fmap f t).get k = (t.get k).bind f
 | .nil, k => by simp [PT.fmap]
 | .nd l v r, 0 => by simp [PT.fmap]
 | .nd l v r, k + 1 => by
  simp only [PT.fmap, PT.get_succ]
  split
  ·exact PT.get_fmap f l _
  ·exact PT.get_fmap f r _
def rom1 : AObj → Option AObj
 | .cells c n _ => some (.cells c n (some (0, 0)))
 | _ => none
def romS (s : St) (b : Nat) : St := { s with h := PT.fmap rom1 (s.h.del b) }
theorem romS_get {s : St} {b c : Nat} {o : AObj} (h : (romS s b).h.get c = some o) : c ≠ b ∧ ∃ d n tl, s.h.get c = some (.cells d n tl) ∧ o = .cells d n (some (0, 0)) := by
 simp only [romS, PT.get_fmap, PT.get_del] at h
 by_cases e : c = b
 ·rw [if_pos e] at h; simp at h
 ·rw [if_neg e] at h
  refine ⟨e, ?_⟩
  cases hx : s.h.get c with
  | none => rw [hx] at h; simp at h
  | some ob =>
   rw [hx] at h
   cases ob <;> simp [rom1] at h
   exact ⟨_, _, _, rfl, h.symm⟩
theorem Rel.rom {φ : Phi} {s : St} {w W : World} (h : Rel φ s w) {b r sh : Nat} (hb : (s.h.get b).isSome = true) (hr : φ.blk b = some (r, sh)) (hW : ∀ r', r' < w.heap.size → r' ≠ r → W.heap[r']? = w.heap[r']?) : Rel φ (romS s b) W where
 obj := fun c o hc => by
  obtain ⟨hne, d, n, tl, h1, rfl⟩ := romS_get hc
  obtain ⟨r', sh', arr, e, fz, g1, g2, g3, _⟩ := h.cells h1
  refine .inr ⟨r', sh', .cells arr e fz, g1, ?_, .rom g3⟩
  have hlt := (Array.getElem?_eq_some_iff.1 g2).1
  rw [hW r' hlt ?_]
  ·exact g2
  ·rintro rfl
   exact hne (h.inj c b r' sh' sh (by simp [h1]) hb g1 hr)
 inj := fun c c' r' s1 s2 hc hc' e e' => by
  obtain ⟨o, ho⟩ := Option.isSome_iff_exists.1 hc
  obtain ⟨o', ho'⟩ := Option.isSome_iff_exists.1 hc'
  obtain ⟨_, _, _, _, g, _⟩ := romS_get ho
  obtain ⟨_, _, _, _, g', _⟩ := romS_get ho'
  exact h.inj c c' r' s1 s2 (by simp [g]) (by simp [g']) e e'
 fresh := h.fresh
 freshc := h.freshc
 glob := h.glob
 gnx := h.gnx
 facts := h.facts
theorem CallsA.reads {g : FuncId} {args : List AV} {s : St} {x : AV} {u : Value} (h : CallsA P g args s fun v _ => v = x) (hx : ∀ φ v, VR φ x v → v = u) (ho : ∀ b, ownB s.h b = false) {φ : Phi} {vals : List Value} {w : World} (hr : Rel φ s w) (hv : VRs φ args vals) :
  Calls P g vals.toArray w fun e w' => e = .returned u ∧ ∃ q os', w' = Sort.grow (w.drewN q) os' := by
 intro cs
 obtain ⟨v, s', rfl, φ', u', w', fr, q1, q2, q3, q4, q5, q6⟩ := h φ vals w cs hr hv
 have := hx φ' u' q3
 subst this
 exact ⟨.returned u', w', fr, ⟨rfl, Kept.grown ⟨q1.os, q1.out, q1.size, fun r hr => q1.keep r hr fun b sh hb => by rw [ho] at hb; simp at hb, q1.tape, q1.dr⟩⟩, q4, q5, q6⟩
end
end Go.Eng

namespace Go.Eng
noncomputable section
set_option linter.unusedSectionVars false
variable {P : Program} {D : Tab} {κ : Type} [DecidableEq κ]
structure KeyE (D : Tab) (kt : TypeId) (κ : Type) [DecidableEq κ] where
 f : κ → AV
 ok : ∀ a, keyOk D kt (f a) = true
 eq : ∀ h a b, aeq D h depth kt (f a) (f b) = some (decide (a = b))
 same : ∀ a, geq (f a) (f a) = true
abbrev Ent (κ : Type) := List (κ × AV × Nat)
def encE (f : κ → AV) (es : Ent κ) : List (AV × AV × Nat) := es.map fun e => (f e.1, e.2.1, e.2.2)
def mget : List (κ × AV) → κ → Option AV
 | [], _ => none
 | (a, v) :: r, k => if k = a then some v else mget r k
def mset : List (κ × AV) → κ → AV → List (κ × AV)
 | [], k, v => [(k, v)]
 | (a, w) :: r, k, v => if k = a then (a, v) :: r else (a, w) :: mset r k v
def mdel : List (κ × AV) → κ → List (κ × AV)
 | [], _ => []
 | (a, w) :: r, k => if k = a then r else (a, w) :: mdel r k
theorem mset_keys (m : List (κ × AV)) (k : κ) (v : AV) : (mset m k v).map (·.1) = if k ∈ m.map (·.1) then m.map (·.1) else m.map (·.1) ++ [k] := by
 induction m with
 | nil => simp [mset]
 | cons p r ih =>
  obtain ⟨a, w⟩ := p
  simp only [mset]
  by_cases e : k = a
  ·subst e; simp
  ·rw [if_neg e]
   simp only [List.map_cons, ih, List.mem_cons, e, false_or]
   split <;> simp
theorem mset_nodup {m : List (κ × AV)} (h : (m.map (·.1)).Nodup) (k : κ) (v : AV) : ((mset m k v).map (·.1)).Nodup := by
 rw [mset_keys]
 split
 ·exact h
 ·rename_i hk
  rw [List.nodup_append]
  exact ⟨h, by simp, fun a ha b hb => by simp at hb; subst hb; rintro rfl; exact hk ha⟩
theorem mdel_keys_sub (m : List (κ × AV)) (k : κ) : (mdel m k).Sublist m := by
 induction m with
 | nil => simp [mdel]
 | cons p r ih =>
  obtain ⟨a, w⟩ := p
  simp only [mdel]
  split
  ·exact List.sublist_cons_self _ _
  ·exact ih.cons_cons _
def kv (es : Ent κ) : List (κ × AV) := es.map fun e => (e.1, e.2.1)
def findM : Ent κ → κ → Nat → Option (Nat × AV)
 | [], _, _ => none
 | (a, v, _) :: r, k, i => if k = a then some (i, v) else findM r k (i + 1)
theorem findK_enc {kt : TypeId} (K : KeyE D kt κ) (h : PT AObj) (k : κ) : ∀ (es : Ent κ) (i : Nat), findK D h kt (K.f k) (encE K.f es) i = some (findM es k i)
 | [], i => rfl
 | (a, v, t) :: r, i => by
  simp only [encE, List.map_cons, findK, K.eq, findM]
  by_cases e : k = a
  ·subst e; simp [K.same]
  ·simp only [e, decide_false, if_false]
   exact findK_enc K h k r (i + 1)
theorem findM_get : ∀ (es : Ent κ) (k : κ) (i : Nat), (findM es k i).map (·.2) = mget (kv es) k
 | [], _, _ => rfl
 | (a, v, t) :: r, k, i => by
  simp only [findM, kv, List.map_cons, mget]
  by_cases e : k = a
  ·simp [e]
  ·simp only [e, if_false]; exact findM_get r k (i + 1)
theorem findM_set : ∀ (es : Ent κ) (k : κ) (i j : Nat) (w v : AV), findM es k i = some (j, w) → i ≤ j ∧ ∃ es' : Ent κ, ∀ f : κ → AV, setVal (encE f es) (j - i) v = encE f es' ∧ kv es' = mset (kv es) k v ∧ es'.map (·.2.2) = es.map (·.2.2)
 | [], _, _, _, _, _, h => by simp [findM] at h
 | (a, x, t) :: r, k, i, j, w, v, h => by
  simp only [findM] at h
  by_cases e : k = a
  ·rw [if_pos e] at h
   simp only [Option.some.injEq, Prod.mk.injEq] at h
   obtain ⟨rfl, rfl⟩ := h
   refine ⟨Nat.le_refl _, (a, v, t) :: r, fun f => ⟨?_, ?_, rfl⟩⟩
   ·rw [Nat.sub_self]; rfl
   ·simp [kv, mset, e]
  ·rw [if_neg e] at h
   obtain ⟨h1, es', h2⟩ := findM_set r k (i + 1) j w v h
   refine ⟨by omega, (a, x, t) :: es', fun f => ⟨?_, ?_, ?_⟩⟩
   ·obtain ⟨m, hm⟩ : ∃ m, j - i = m + 1 := ⟨j - i - 1, by omega⟩
    have hm' : j - (i + 1) = m := by omega
    have := (h2 f).1
    rw [hm'] at this
    rw [hm]
    simp only [encE, List.map_cons, setVal]
    simp only [encE] at this
    rw [this]
   ·have := (h2 f).2.1
    simp only [kv, List.map_cons, mset] at this ⊢
    rw [if_neg e, this]
   ·have := (h2 f).2.2
    simp only [List.map_cons, this]
theorem findM_del : ∀ (es : Ent κ) (k : κ) (i j : Nat) (w : AV), findM es k i = some (j, w) → i ≤ j ∧ ∃ es' : Ent κ, ∀ f : κ → AV, eraseAt (encE f es) (j - i) = encE f es' ∧ kv es' = mdel (kv es) k ∧ (es'.map (·.2.2)).Sublist (es.map (·.2.2))
 | [], _, _, _, _, h => by simp [findM] at h
 | (a, x, t) :: r, k, i, j, w, h => by
  simp only [findM] at h
  by_cases e : k = a
  ·rw [if_pos e] at h
   simp only [Option.some.injEq, Prod.mk.injEq] at h
   obtain ⟨rfl, rfl⟩ := h
   refine ⟨Nat.le_refl _, r, fun f => ⟨?_, ?_, List.sublist_cons_self _ _⟩⟩
   ·rw [Nat.sub_self]; rfl
   ·simp [kv, mdel, e]
  ·rw [if_neg e] at h
   obtain ⟨h1, es', h2⟩ := findM_del r k (i + 1) j w h
   refine ⟨by omega, (a, x, t) :: es', fun f => ⟨?_, ?_, ?_⟩⟩
   ·obtain ⟨m, hm⟩ : ∃ m, j - i = m + 1 := ⟨j - i - 1, by omega⟩
    have hm' : j - (i + 1) = m := by omega
    have := (h2 f).1
    rw [hm'] at this
    rw [hm]
    simp only [encE, List.map_cons, eraseAt]
    simp only [encE] at this
    rw [this]
   ·have := (h2 f).2.1
    simp only [kv, List.map_cons, mdel] at this ⊢
    rw [if_neg e, this]
   ·exact (h2 f).2.2.cons_cons _
theorem mset_none {m : List (κ × AV)} {k : κ} (h : mget m k = none) (v : AV) : mset m k v = m ++ [(k, v)] := by
 induction m with
 | nil => rfl
 | cons p r ih =>
  obtain ⟨a, w⟩ := p
  simp only [mget] at h
  by_cases e : k = a
  ·simp [e] at h
  ·rw [if_neg e] at h
   simp only [mset, if_neg e, ih h, List.cons_append]
theorem mdel_none {m : List (κ × AV)} {k : κ} (h : mget m k = none) : mdel m k = m := by
 induction m with
 | nil => rfl
 | cons p r ih =>
  obtain ⟨a, w⟩ := p
  simp only [mget] at h
  by_cases e : k = a
  ·simp [e] at h
  ·rw [if_neg e] at h
   simp only [mdel, if_neg e, ih h]
def MapS (f : κ → AV) (s : St) (b : Nat) (m : List (κ × AV)) : Prop :=
 ∃ (es : Ent κ) (clock : Nat), s.h.get b = some (.map (encE f es) clock) ∧ kv es = m ∧ (m.map (·.1)).Nodup ∧ (es.map (·.2.2)).Nodup ∧ ∀ t, t ∈ es.map (·.2.2) → t < clock
theorem MapS.fwd {f : κ → AV} {M : List Nat} {s s' : St} {b : Nat} {m : List (κ × AV)} (h : MapS f s b m) (hf : Frw M s s') (hb : b ∉ M) : MapS f s' b m := by
 obtain ⟨es, clock, h1, h2⟩ := h
 exact ⟨es, clock, hf.1 b _ hb h1, h2⟩
theorem MapS.ext {f : κ → AV} {s s' : St} {b : Nat} {m : List (κ × AV)} (h : MapS f s b m) (hf : Frw [] s s') : MapS f s' b m := h.fwd hf (by simp)
theorem MapS.there {f : κ → AV} {s : St} {b : Nat} {m : List (κ × AV)} (h : MapS f s b m) : s.h.get b ≠ none := by
 obtain ⟨es, clock, h1, _⟩ := h
 rw [h1]; simp
theorem MapS.new {f : κ → AV} {s s' : St} {b : Nat} (h : NewO s mapO b s') : MapS f s' b [] :=
 ⟨[], 0, h.get, rfl, by simp, by simp, by simp⟩
theorem MapS.lookup {t kt et : TypeId} {ti ei : TyI} (K : KeyE D kt κ) {s : St} {b : Nat} {m : List (κ × AV)} (h : MapS K.f s b m) (ht : D.ty.get t = some ti) (hd : ti.d = .map kt et) (he : D.ty.get et = some ei) {z : AV} (hz : ei.zero = some z) (k : κ) :
  lookupA D s t (.map b) (K.f k) false = some ((mget m k).getD z) ∧ lookupA D s t (.map b) (K.f k) true = some (.tuple [(mget m k).getD z, .bool (mget m k).isSome]) := by
 obtain ⟨es, clock, h1, rfl, _⟩ := h
 obtain ⟨d, sz, by', ze, he'⟩ := ti
 simp only at hd
 subst hd
 have hf := findM_get es k 0
 simp only [lookupA, ht, K.ok, Bool.not_true, Bool.false_eq_true, if_false, entriesA, h1, findK_enc]
 cases hx : findM es k 0 with
 | none =>
  rw [hx] at hf
  simp only [Option.map_none] at hf
  simp [← hf, he, hz]
 | some p =>
  obtain ⟨i, v⟩ := p
  rw [hx] at hf
  simp only [Option.map_some] at hf
  simp [← hf]
def MapW (s : St) (b : Nat) (s' : St) : Prop := Frw [b] s s' ∧ s'.nx = s.nx ∧ s'.nc = s.nc ∧ ∀ c, c ≠ b → s'.h.get c = s.h.get c
theorem mapW_set (s : St) (b : Nat) (o : AObj) : MapW s b { s with h := s.h.set b o } :=
 ⟨⟨fun c o hc ho => by simp only [PT.get_set]; rw [if_neg (by simpa using hc)]; exact ho, Nat.le_refl _, rfl⟩, rfl, rfl, fun c hc => by simp [PT.get_set, hc]⟩
theorem MapW.fr {s s' : St} {b : Nat} (h : MapW s b s') (hf : Fr s) (hb : s.h.get b ≠ none) : Fr s' := hf.wr hb h.2.1 h.2.2.2
theorem MapS.set {t kt et : TypeId} {ti : TyI} (K : KeyE D kt κ) {s : St} {b : Nat} {m : List (κ × AV)} (h : MapS K.f s b m) (ht : D.ty.get t = some ti) (hd : ti.d = .map kt et) (k : κ) (v : AV) :
  ∃ s', mapUpdA D s t (.map b) (K.f k) v = some s' ∧ MapS K.f s' b (mset m k v) ∧ MapW s b s' := by
 obtain ⟨es, clock, h1, rfl, h2, h3, h4⟩ := h
 obtain ⟨d, sz, by', ze, he'⟩ := ti
 simp only at hd
 subst hd
 have hf := findM_get es k 0
 cases hx : findM es k 0 with
 | none =>
  rw [hx] at hf
  simp only [Option.map_none] at hf
  refine ⟨_, by simp only [mapUpdA, ht, K.ok, Bool.not_true, Bool.false_eq_true, if_false, h1, findK_enc, hx]; rfl, ⟨es ++ [(k, v, clock)], clock + 1, by simp [encE], ?_, mset_nodup h2 k v, ?_, ?_⟩, mapW_set _ _ _⟩
  ·rw [mset_none hf.symm]; simp [kv]
  ·simp only [List.map_append, List.map_cons, List.map_nil]
   rw [List.nodup_append]
   exact ⟨h3, by simp, fun a ha c hc => by simp at hc; subst hc; have := h4 a ha; omega⟩
  ·intro t ht
   simp only [List.map_append, List.map_cons, List.map_nil, List.mem_append, List.mem_singleton] at ht
   rcases ht with ht | ht
   ·have := h4 t ht; omega
   ·omega
 | some p =>
  obtain ⟨i, w⟩ := p
  obtain ⟨_, es', he⟩ := findM_set es k 0 i w v hx
  obtain ⟨e1, e2, e3⟩ := he K.f
  rw [Nat.sub_zero] at e1
  refine ⟨_, by simp only [mapUpdA, ht, K.ok, Bool.not_true, Bool.false_eq_true, if_false, h1, findK_enc, hx]; rfl, ⟨es', clock, by simp [e1], e2, mset_nodup h2 k v, by rw [e3]; exact h3, by rw [e3]; exact h4⟩, mapW_set _ _ _⟩
theorem MapS.del {t kt et : TypeId} {ti : TyI} (K : KeyE D kt κ) {s : St} {b : Nat} {m : List (κ × AV)} (h : MapS K.f s b m) (ht : D.ty.get t = some ti) (hd : ti.d = .map kt et) (k : κ) :
  ∃ s', deleteA D s t (.map b) (K.f k) = some (.tuple [], s') ∧ MapS K.f s' b (mdel m k) ∧ MapW s b s' := by
 obtain ⟨es, clock, h1, rfl, h2, h3, h4⟩ := h
 obtain ⟨d, sz, by', ze, he'⟩ := ti
 simp only at hd
 subst hd
 have hf := findM_get es k 0
 cases hx : findM es k 0 with
 | none =>
  rw [hx] at hf
  simp only [Option.map_none] at hf
  refine ⟨_, by simp only [deleteA, ht, K.ok, if_true, h1, findK_enc, hx]; rfl, ⟨es, clock, by simp, by rw [mdel_none hf.symm], by rw [mdel_none hf.symm]; exact h2, h3, h4⟩, mapW_set _ _ _⟩
 | some p =>
  obtain ⟨i, w⟩ := p
  obtain ⟨_, es', he⟩ := findM_del es k 0 i w hx
  obtain ⟨e1, e2, e3⟩ := he K.f
  rw [Nat.sub_zero] at e1
  refine ⟨_, by simp only [deleteA, ht, K.ok, if_true, h1, findK_enc, hx]; rfl, ⟨es', clock, by simp [e1], e2, ?_, h3.sublist e3, fun t ht => h4 t (e3.subset ht)⟩, mapW_set _ _ _⟩
  exact h2.sublist ((mdel_keys_sub _ _).map _)
theorem MapS.len {f : κ → AV} {t kt et : TypeId} {ti : TyI} {s : St} {b : Nat} {m : List (κ × AV)} (h : MapS f s b m) (ht : D.ty.get t = some ti) (hd : ti.d = .map kt et) : lenA D s t (.map b) = some (.int .i64 (m.length : Nat)) := by
 obtain ⟨es, clock, h1, rfl, _⟩ := h
 simp [lenA, ht, hd, h1, encE, kv]
def IterS (f : κ → AV) (s : St) (it b : Nat) (m rem : List (κ × AV)) : Prop :=
 ∃ (es : Ent κ) (clock : Nat) (seen : List Nat), s.h.get b = some (.map (encE f es) clock) ∧ kv es = m ∧ (∀ t, t ∈ es.map (·.2.2) → t < clock) ∧ (es.map (·.2.2)).Nodup ∧ s.h.get it = some (.iter (some b) clock seen clock) ∧ kv (es.filter fun e => !rmBorn seen e.2.2) = rem
theorem IterS.fwd {f : κ → AV} {M : List Nat} {s s' : St} {it b : Nat} {m rem : List (κ × AV)} (h : IterS f s it b m rem) (hf : Frw M s s') (hb : b ∉ M) (hi : it ∉ M) : IterS f s' it b m rem := by
 obtain ⟨es, clock, seen, h1, h2, h3, h4, h5, h6⟩ := h
 exact ⟨es, clock, seen, hf.1 b _ hb h1, h2, h3, h4, hf.1 it _ hi h5, h6⟩
theorem IterS.ext {f : κ → AV} {s s' : St} {it b : Nat} {m rem : List (κ × AV)} (h : IterS f s it b m rem) (hf : Frw [] s s') : IterS f s' it b m rem := h.fwd hf (by simp) (by simp)
theorem MapS.range {f : κ → AV} {t kt et : TypeId} {ti : TyI} {s : St} {b : Nat} {m : List (κ × AV)} (h : MapS f s b m) (ht : D.ty.get t = some ti) (hd : ti.d = .map kt et) (hfr : Fr s) :
  ∃ it s', rangeA D s t (.map b) = some (.ptr it 0, s') ∧ IterS f s' it b m m ∧ Frw [] s s' ∧ Fr s' ∧ s.h.get it = none ∧ it = s.nx := by
 obtain ⟨es, clock, h1, rfl, _, h3, h4⟩ := h
 have hN : NewO s (.iter (some b) clock [] clock) s.nx (s.new (.iter (some b) clock [] clock)).2 := ⟨rfl, rfl, hfr⟩
 refine ⟨s.nx, _, by simp only [rangeA, ht, hd, h1]; rfl, ⟨es, clock, [], hN.fwd.1 b _ (by simp) h1, rfl, h4, h3, hN.get, ?_⟩, hN.fwd, hN.fr, hN.gone, rfl⟩
 rw [List.filter_eq_self.2]
 simp [rmBorn]
theorem rmBorn_append (a b : List Nat) (n : Nat) : rmBorn (a ++ b) n = (rmBorn a n || rmBorn b n) := by
 induction a with
 | nil => simp [rmBorn]
 | cons x r ih => simp [rmBorn, ih, Bool.or_assoc]
theorem IterS.next {f : κ → AV} {s : St} {it b : Nat} {m rem : List (κ × AV)} (h : IterS f s it b m rem) :
  ∃ l, nextA s (.ptr it 0) false = some l ∧ ∀ v s', (v, s') ∈ l → (v = .tuple [.bool false] ∧ s' = s ∧ rem = []) ∨
   ∃ a k x c, rem = a ++ (k, x) :: c ∧ v = .tuple [.bool true, f k, x] ∧ IterS f s' it b m (a ++ c) ∧ Frw [it] s s' ∧ s'.nx = s.nx ∧ s'.nc = s.nc ∧ ∀ c, c ≠ it → s'.h.get c = s.h.get c := by
 obtain ⟨es, clock, seen, h1, rfl, h3, h4, h5, rfl⟩ := h
 have hib : it ≠ b := by rintro rfl; rw [h1] at h5; simp at h5
 have hall : (!seen.isEmpty && !(encE f es).isEmpty && (encE f es).all fun e => Nat.ble clock e.2.2) = false := by
  cases hes : es with
  | nil => simp [encE]
  | cons e r =>
   have := h3 e.2.2 (by rw [hes]; simp)
   have hb : Nat.ble clock e.2.2 = false := by
    rw [← Bool.not_eq_true, Nat.ble_eq]; omega
   simp [encE, hb]
 have hold : oldOf seen clock (encE f es) = encE f (es.filter fun e => !rmBorn seen e.2.2) := by
  unfold oldOf
  rw [List.filter_eq_self.2]
  ·simp only [encE, List.filter_map]; rfl
  ·intro e he
   have he := (List.mem_filter.1 he).1
   simp only [encE, List.mem_map] at he
   obtain ⟨e0, h0, rfl⟩ := he
   have := h3 e0.2.2 (List.mem_map.2 ⟨e0, h0, rfl⟩)
   rw [Nat.blt_eq]; exact this
 have hnew : newOf seen clock (encE f es) = [] := by
  unfold newOf
  rw [List.filter_eq_nil_iff]
  intro e he
  have he := (List.mem_filter.1 he).1
  simp only [encE, List.mem_map] at he
  obtain ⟨e0, h0, rfl⟩ := he
  have := h3 e0.2.2 (List.mem_map.2 ⟨e0, h0, rfl⟩)
  show ¬ Nat.ble clock e0.2.2 = true
  rw [Nat.ble_eq]; omega
 refine ⟨_, by simp only [nextA, h5, h1, hall, Bool.false_eq_true, if_false]; rfl, fun v s' hm => ?_⟩
 rw [hold, hnew, List.append_nil] at hm
 rcases List.mem_append.1 hm with hm | hm
 ·split at hm
  ·rename_i he
   simp only [List.mem_singleton, Prod.mk.injEq] at hm
   refine .inl ⟨hm.1, hm.2, ?_⟩
   have : es.filter (fun e => !rmBorn seen e.2.2) = [] := by
    have := List.isEmpty_iff.1 he
    simpa [encE] using this
   rw [this]; rfl
  ·simp at hm
 ·obtain ⟨e1, g1, g2⟩ := List.mem_map.1 hm
  simp only [encE, List.mem_map] at g1
  obtain ⟨e, g1, rfl⟩ := g1
  obtain ⟨k, x, t⟩ := e
  simp only [stepTo, Prod.mk.injEq] at g2
  obtain ⟨rfl, rfl⟩ := g2
  obtain ⟨a, c, hac⟩ := List.append_of_mem g1
  refine .inr ⟨kv a, k, x, kv c, by rw [hac]; simp [kv], rfl, ⟨es, clock, seen ++ [t], ?_, rfl, h3, h4, by simp, ?_⟩, ⟨fun d o hd ho => ?_, Nat.le_refl _, rfl⟩, rfl, rfl, fun d hd => by simp [PT.get_set, hd]⟩
  ·simp only [PT.get_set]; rw [if_neg (Ne.symm hib)]; exact h1
  ·have e1 : (es.filter fun e => !rmBorn (seen ++ [t]) e.2.2) = (es.filter fun e => !rmBorn seen e.2.2).filter fun e => !Nat.beq t e.2.2 := by
    rw [List.filter_filter]
    congr 1
    funext e
    rw [rmBorn_append]
    simp [rmBorn, Bool.and_comm]
   have hnd : ((es.filter fun e => !rmBorn seen e.2.2).map (·.2.2)).Nodup := h4.sublist (List.filter_sublist.map _)
   rw [e1, hac]
   rw [hac] at hnd
   simp only [List.map_append, List.map_cons, List.nodup_append, List.nodup_cons, List.mem_cons] at hnd
   obtain ⟨n1, ⟨n2, n3⟩, n4⟩ := hnd
   have fa : a.filter (fun e => !Nat.beq t e.2.2) = a := by
    rw [List.filter_eq_self]
    intro e he
    have := n4 e.2.2 (List.mem_map.2 ⟨e, he, rfl⟩) t (.inl rfl)
    simp only [Bool.not_eq_true', ← Bool.not_eq_true, Nat.beq_eq]
    exact fun h => this h.symm
   have fc : c.filter (fun e => !Nat.beq t e.2.2) = c := by
    rw [List.filter_eq_self]
    intro e he
    simp only [Bool.not_eq_true', ← Bool.not_eq_true, Nat.beq_eq]
    rintro h
    exact n2 (List.mem_map.2 ⟨e, he, h.symm⟩)
   rw [List.filter_append, List.filter_cons, fa, fc]
   simp [kv]
  ·simp only [PT.get_set]; rw [if_neg (by simpa using hd)]; exact ho
end
end Go.Eng

namespace Go.Eng
noncomputable section
variable {P : Program} {D : Tab}
theorem bytesLt_cons {a b : UInt8} {x y : List UInt8} : bytesLt (a :: x) (b :: y) = true ↔ a.toNat < b.toNat ∨ (a.toNat = b.toNat ∧ bytesLt x y = true) := by
 simp only [bytesLt, Bool.or_eq_true, Bool.and_eq_true, Nat.blt_eq, Nat.beq_eq]
theorem bytesLt_irrefl : ∀ a : List UInt8, bytesLt a a = false
 | [] => rfl
 | a :: x => by
  rw [← Bool.not_eq_true, bytesLt_cons]
  rintro (h | ⟨_, h⟩)
  ·omega
  ·rw [bytesLt_irrefl x] at h; simp at h
def sLt (a b : ByteArray) : Bool := bytesLt a.data.toList b.data.toList
theorem sLt_irrefl (a : ByteArray) : sLt a a = false := bytesLt_irrefl _
def cmpS (a b : ByteArray) : Int := if sLt a b = true then -1 else if a = b then 0 else 1
abbrev SS := ByteArray × ByteArray
theorem hsetS_own {s : St} {b : Nat} {cs : List AV} : Own (hsetS s b (cellsO cs)) b cs := by
 refine ⟨_, by simp only [hsetS, PT.get_set_same]; rfl, getAll_of rfl fun i hi => ?_⟩
 rw [PT.get_setAll, if_pos (by omega)]
 simp
theorem hsetS_fwd {s : St} {b : Nat} {o : AObj} (hb : s.h.get b = none) : Frw [] s (hsetS s b o) :=
 ⟨fun c x _ hx => by
  have : c ≠ b := by rintro rfl; rw [hb] at hx; simp at hx
  simp only [hsetS, PT.get_set]; rw [if_neg this]; exact hx, Nat.le_refl _, rfl⟩
theorem hsetS_fr {s : St} {b : Nat} {o : AObj} (h : Fr s) (hb : b < s.nx) : Fr (hsetS s b o) := fun c hc => by
 have hc : s.nx ≤ c := hc
 have : c ≠ b := by omega
 simp [hsetS, PT.get_set, this, h c hc]
theorem Bump.lt {s s' : St} {n : Nat} (h : Bump s n s') : s'.nx = s.nx + n := by obtain ⟨rfl, _⟩ := h; rfl
theorem Bump.free {s s' : St} {n i : Nat} (h : Bump s n s') : s'.h.get (s.nx + i) = none := by
 obtain ⟨rfl, hf⟩ := h; exact hf _ (by omega)
theorem Frw.gone {s s' : St} {M : List Nat} (h : Frw M s s') {c : Nat} (hc : s.h.get c ≠ Option.none) (hm : c ∉ M) : s'.h.get c ≠ Option.none := by
 cases e : s.h.get c with
 | none => exact absurd e hc
 | some o => rw [h.1 c o hm e]; simp
theorem MapS.entries {κ : Type} [DecidableEq κ] {f : κ → AV} {s : St} {b : Nat} {m : List (κ × AV)} (h : MapS f s b m) : ∃ l, entriesA s (.map b) = some l ∧ l.length = m.length := by
 obtain ⟨es, clock, h1, rfl, _⟩ := h
 exact ⟨encE f es, by simp only [entriesA, h1], by simp [encE, kv]⟩
def NoCells (s : St) (b : Nat) : Prop := ∀ c n tl, s.h.get b ≠ some (.cells c n tl)
theorem Sl.beside {α : Type} {E : Enc α} {s s' : St} {x : AV} {l : List α} {M : List Nat} (h : Sl E s x l) (hf : Frw M s s') (hM : ∀ c, c ∈ M → NoCells s c ∨ c ∉ blkOf x) : Sl E s' x l := by
 rcases h with h | ⟨b, o, n, cap, rfl, h2, h3⟩
 ·exact .inl h
 ·refine .inr ⟨b, o, n, cap, rfl, h2, h3.fwd hf fun hb => ?_⟩
  rcases hM b hb with h | h
  ·obtain ⟨c, n, tl, g, _⟩ := h3
   exact h _ _ _ g
  ·exact h (by simp [blkOf])
theorem So.there {α : Type} {E : Enc α} {s : St} {x : AV} {l : List α} (h : So E s x l) : ∀ c, c ∈ blkOf x → s.h.get c ≠ none := by
 rcases h with ⟨rfl, _⟩ | ⟨b1, k1, n1, c1, rfl, _, q3, _⟩
 ·simp [blkOf]
 ·intro c hc
  have : c = b1 := by simpa [blkOf] using hc
  rw [this, q3]; simp
theorem IterS.entry {κ : Type} [DecidableEq κ] {f : κ → AV} {s : St} {it b : Nat} {m rem : List (κ × AV)} (h : IterS f s it b m rem) :
  ∃ l, nextA s (.ptr it 0) false = some l ∧ ∀ v s', (v, s') ∈ l → (v = .tuple [.bool false] ∧ s' = s ∧ rem = []) ∨
   ∃ a k x c, rem = a ++ (k, x) :: c ∧ v = .tuple [.bool true, f k, x] ∧ IterS f s' it b m (a ++ c) ∧ Frw [it] s s' ∧ s'.nx = s.nx ∧ s'.nc = s.nc ∧ (∀ c, c ≠ it → s'.h.get c = s.h.get c) ∧ entryA s' (.ptr it 0) = some (.tuple [f k, x]) := by
 obtain ⟨l, h1, h2⟩ := h.next
 refine ⟨l, h1, fun v s' hm => ?_⟩
 rcases h2 v s' hm with h3 | ⟨a, k, x, c, e1, e2, e3, e4, e5, e6, e7⟩
 ·exact .inl h3
 ·refine .inr ⟨a, k, x, c, e1, e2, e3, e4, e5, e6, e7, ?_⟩
  obtain ⟨es, clock, seen, g1, g2, g3, g4, g5, g6⟩ := h
  have hib : it ≠ b := by rintro rfl; rw [g1] at g5; simp at g5
  have hl : ∃ e, e ∈ es ∧ (v, s') = stepTo s it b clock seen clock (f e.1, e.2.1, e.2.2) := by
   unfold nextA at h1
   simp only [g5, g1] at h1
   split at h1
   ·simp at h1
   ·simp only [Option.some.injEq] at h1
    rw [← h1] at hm
    rcases List.mem_append.1 hm with hm | hm
    ·split at hm
     ·simp only [List.mem_singleton, Prod.mk.injEq] at hm
      rw [e2] at hm
      simp at hm
     ·simp at hm
    ·obtain ⟨e, m1, m2⟩ := List.mem_map.1 hm
     have : e ∈ encE f es := by
      rcases List.mem_append.1 m1 with m1 | m1
      ·exact (List.mem_filter.1 (List.mem_filter.1 m1).1).1
      ·exact (List.mem_filter.1 (List.mem_filter.1 m1).1).1
     simp only [encE, List.mem_map] at this
     obtain ⟨e0, m3, rfl⟩ := this
     exact ⟨e0, m3, m2.symm⟩
  obtain ⟨⟨k0, x0, t0⟩, m1, m2⟩ := hl
  simp only [stepTo, Prod.mk.injEq] at m2
  obtain ⟨m2, rfl⟩ := m2
  rw [e2] at m2
  simp only [AV.tuple.injEq, List.cons.injEq, true_and, and_true] at m2
  obtain ⟨m3, rfl⟩ := m2
  rw [m3]
  have hlast : ∀ (l : List Nat) (n : Nat), lastN (l ++ [n]) = some n := by
   intro l n
   induction l with
   | nil => rfl
   | cons a r ih =>
    cases r with
    | nil => rfl
    | cons b r => simpa [lastN] using ih
  have hb' : (s.h.set it (AObj.iter (some b) clock (seen ++ [t0]) clock)).get b = some (.map (encE f es) clock) := by
   rw [PT.get_set, if_neg (Ne.symm hib)]; exact g1
  have hf : ∀ (es : Ent κ), (es.map (·.2.2)).Nodup → (k0, x, t0) ∈ es → findBorn (encE f es) t0 = some (.tuple [f k0, x]) := by
   intro es
   induction es with
   | nil => intro _ h; simp at h
   | cons e r ih =>
    intro hn hm
    obtain ⟨k1, x1, t1⟩ := e
    simp only [List.map_cons, List.nodup_cons] at hn
    simp only [encE, List.map_cons, findBorn]
    rcases List.mem_cons.1 hm with hm | hm
    ·simp only [Prod.mk.injEq] at hm
     obtain ⟨rfl, rfl, rfl⟩ := hm
     simp [Nat.beq_refl]
    ·have : t1 ≠ t0 := by
      rintro rfl
      exact hn.1 (List.mem_map.2 ⟨_, hm, rfl⟩)
     have hb : Nat.beq t1 t0 = false := by rw [← Bool.not_eq_true, Nat.beq_eq]; exact this
     rw [hb]
     exact ih hn.2 hm
  simp only [entryA, PT.get_set_same, hb', hlast, Nat.beq_refl, hf es g4 m1]
end
end Go.Eng

namespace Go.Eng
noncomputable section
variable {P : Program} {D : Tab} {α : Type}
theorem sliceCells_of {E : Enc α} {s : St} {x : AV} {l : List α} (h : Sl E s x l) : sliceCells s.h E.z x = some (l.flatMap E.f) ∧ avLen x = some l.length := by
 have hlen := h.len
 rcases h with ⟨h1, h2⟩ | ⟨b, o, n, cap, rfl, h1, c, k, tl, g1, g2, g3⟩
 ·rw [slZero_len h1] at hlen
  simp only [Option.some.injEq] at hlen
  have h0 : l = [] := List.length_eq_zero_iff.1 hlen.symm
  subst h0
  cases x <;> simp [slZero] at h1 <;> exact ⟨rfl, rfl⟩
 ·have hn : n = l.length := by simpa [slLen] using hlen
  refine ⟨?_, by rw [← hn]; rfl⟩
  have hb : Nat.ble (o + n * E.z) k = true := by rw [Nat.ble_eq, ← h1]; exact g2
  simp only [sliceCells, g1, hb, if_true]
  rw [← h1]; exact g3
theorem So.appendAll {E : Enc α} {s : St} {x y : AV} {l l2 : List α} {t et : TypeId} {ti ei : TyI} {zv : AV} (h : So E s x l) (hy : Sl E s y l2) (hti : D.ty.get t = some ti) (hd : ti.d = .slice et) (hei : D.ty.get et = some ei) (hsz : ei.size = E.z) (hzv : ei.zero = some zv) (hzl : zv.cells.length = E.z)
  (h1 : ∀ a, a ∈ l2 → ones (E.f a) = true) (hb : (l.length + l2.length + (l.length + l2.length) / 4 + 600) * ei.bytes ≤ pow48) (hbz : l.length + l2.length ≤ pow48) (hfr : Fr s) :
  ∃ v s', appendX D s t t x y = some (v, s') ∧ So E s' v (l ++ l2) ∧ Frw (blkOf x) s s' ∧ (∀ c, c ∈ blkOf v → c = s.nx ∨ (v = x ∧ s' = s ∧ c ∈ blkOf x)) ∧ Gro s s' := by
 obtain ⟨y1, y2⟩ := sliceCells_of hy
 obtain ⟨x1, x2⟩ := sliceCells_of h.sl
 have hzb : Nat.beq zv.cells.length ei.size = true := by rw [hzl, hsz, Nat.beq_refl]
 have hones : ones (l2.flatMap E.f) = true := by
  clear hy y1 y2 hb hbz
  induction l2 with
  | nil => rfl
  | cons a r ih =>
   have h2 := h1 a (List.mem_cons_self ..)
   have ih := ih fun b hb => h1 b (List.mem_cons_of_mem _ hb)
   rw [List.flatMap_cons]
   generalize E.f a = c at h2
   clear h1
   induction c with
   | nil => exact ih
   | cons u c ihc =>
    cases u <;> first | exact ihc (by simpa [ones] using h2) | simp [ones] at h2
 have hx0 : appendX D s t t x y = appendA D s t t x y := by
  rcases h with ⟨rfl, _⟩ | ⟨b, k, n, c, rfl, _⟩ <;> rfl
 rw [hx0]
 have hsq : isSeq ti.d = true := by rw [hd]; rfl
 simp only [appendA, hti, hd, hei, hzv, isSeq, hzb, Bool.and_self, if_true, appendB, x2, y2]
 rw [hsz, x1, y1]
 cases hl2 : l2.length with
 | zero =>
  have h0 : l2 = [] := List.length_eq_zero_iff.1 hl2
  subst h0
  have hsl : isSl x = true := by rcases h with ⟨rfl, _⟩ | ⟨b, k, n, c, rfl, _⟩ <;> rfl
  simp only [hsl, if_true]
  exact ⟨x, s, rfl, by rw [List.append_nil]; exact h, .refl _ _, fun c hc => .inr ⟨rfl, rfl, hc⟩, .refl hfr⟩
 | succ m =>
  rw [hl2] at hb hbz
  have q1 : Nat.ble ((l.length + (m + 1) + (l.length + (m + 1)) / 4 + 600) * ei.bytes) pow48 = true := by rw [Nat.ble_eq]; exact hb
  have q2 : Nat.ble (l.length + (m + 1)) pow48 = true := by rw [Nat.ble_eq]; exact hbz
  simp only [q1, q2, Bool.and_self, if_true]
  have hlen : (l ++ l2).length = l.length + (m + 1) := by rw [List.length_append, hl2]
  have fin : ∀ (h0 : PT AObj), (∀ c o, c ∉ blkOf x → s.h.get c = some o → h0.get c = some o) → (∀ c, s.h.get c = none → h0.get c = none) →
    So E (growA s h0 E.z (l.length + (m + 1)) (l.flatMap E.f ++ l2.flatMap E.f)).2 (growA s h0 E.z (l.length + (m + 1)) (l.flatMap E.f ++ l2.flatMap E.f)).1 (l ++ l2) ∧ Frw (blkOf x) s (growA s h0 E.z (l.length + (m + 1)) (l.flatMap E.f ++ l2.flatMap E.f)).2 ∧ Gro s (growA s h0 E.z (l.length + (m + 1)) (l.flatMap E.f ++ l2.flatMap E.f)).2 := by
   intro h0 hk hf0
   refine ⟨.inr ⟨s.nx, s.nc, l.length + (m + 1), PT.setAll .nil 0 (l.flatMap E.f ++ l2.flatMap E.f), rfl, by rw [E.flat_len, hlen], by simp [growA], ?_⟩, ⟨fun c o hc ho => ?_, by simp [growA], rfl⟩, growA_gro hfr hf0 _ _ _⟩
   ·rw [List.flatMap_append]
    refine getAll_of (by rw [List.length_append, E.flat_len, E.flat_len, hl2, ← Nat.add_mul]) fun i hi => ?_
    rw [PT.get_setAll, if_pos (by rw [List.length_append, E.flat_len, E.flat_len, hl2, ← Nat.add_mul]; omega)]
    simp
   ·have : c ≠ s.nx := by rintro rfl; rw [hfr _ (Nat.le_refl _)] at ho; simp at ho
    simp [growA, PT.get_set, this]
    exact hk c o hc ho
  rcases h with ⟨rfl, h2⟩ | ⟨b, k, n, c, rfl, g1, g2, g3⟩
  ·have h0 : l = [] := by
    cases l with
    | nil => rfl
    | cons a r =>
     have := congrArg List.length h2
     rw [E.flat_len] at this
     have hp := Nat.mul_pos (Nat.succ_pos r.length) E.pos
     rw [List.length_nil, List.length_cons] at this
     exact absurd this (Nat.ne_of_lt hp).symm
   subst h0
   have := fin s.h (fun c o _ ho => ho) (fun _ h => h)
   simp only [List.length_nil, Nat.zero_add, List.flatMap_nil, List.nil_append] at this ⊢
   exact ⟨_, _, rfl, this.1, this.2.1, fun c hc => .inl (by simpa [growA, blkOf] using hc), this.2.2⟩
  ·have hn : n = l.length := by
    rw [E.flat_len] at g1
    exact (Nat.eq_of_mul_eq_mul_right E.pos g1).symm
   subst hn
   have hpz := E.pos
   have := fin (s.h.del b) (fun c o hc ho => by
    have : c ≠ b := by simpa [blkOf] using hc
    rw [PT.get_del, if_neg this]; exact ho) (fun c hc => by rw [PT.get_del]; split <;> simp [hc])
   simp only [appendC, g2]
   rw [if_pos (by simp [hones, Nat.blt_eq, hpz])]
   exact ⟨_, _, rfl, this.1, this.2.1, fun c hc => .inl (by simpa [growA, blkOf] using hc), this.2.2⟩
end
end Go.Eng

namespace Go.Eng
noncomputable section
variable {P : Program} {D : Tab} {α : Type}
theorem splice_mid {A B C vs : List AV} {j : Nat} (hj : j + vs.length ≤ B.length) : splice (A ++ B ++ C) (A.length + j) vs = A ++ splice B j vs ++ C := by
 simp only [splice, List.append_assoc]
 rw [List.take_length_add_append, List.take_append_of_le_length (by omega), Nat.add_assoc, List.drop_length_add_append, List.drop_append_of_le_length (by omega)]
 simp only [List.append_assoc]
theorem Enc.flat_set (E : Enc α) {l : List α} {k : Nat} (hk : k < l.length) {j : Nat} {vs : List AV} {a : α} (hj : j + vs.length ≤ E.z) (ha : splice (E.f l[k]) j vs = E.f a) : splice (l.flatMap E.f) (k * E.z + j) vs = (l.set k a).flatMap E.f := by
 have e1 : l.flatMap E.f = (l.take k).flatMap E.f ++ E.f l[k] ++ (l.drop (k + 1)).flatMap E.f := by
  conv => lhs; rw [← List.take_append_drop k l, List.drop_eq_getElem_cons hk]
  rw [List.flatMap_append, List.flatMap_cons, List.append_assoc]
 have e2 : ((l.take k).flatMap E.f).length = k * E.z := by rw [E.flat_len, List.length_take, Nat.min_eq_left (by omega)]
 rw [e1, ← e2, splice_mid (by rw [E.len]; exact hj), ha, List.set_eq_take_append_cons_drop, if_pos hk, List.flatMap_append, List.flatMap_cons, List.append_assoc]
theorem So.ixsWr {E : Enc α} {s : St} {x : AV} {l : List α} (h : So E s x l) {z : Nat} (hz : z = E.z) {i : Int} {k : Nat} (hi : i = (k : Int)) (hk : k < l.length) {j : Nat} {vs : List AV} {a : α} (hv : ones vs = true) (hj : j + vs.length ≤ E.z) (ha : splice (E.f l[k]) j vs = E.f a) {K : Nat → Nat → Prop}
  (hK : ∀ b o s', blkOf x = [b] → wrN s (.ptr b (o + j)) vs = some s' → So E s' x (l.set k a) → Frw [b] s s' → s'.nx = s.nx → (∀ c, c ≠ b → s'.h.get c = s.h.get c) → K b o) : ixsK z x i K := by
 subst hz; subst hi
 have hlen := h.sl.len
 rcases h with ⟨rfl, h2⟩ | ⟨b, kk, n, c, rfl, g1, g2, g3⟩
 ·simp only [slLen, Option.some.injEq] at hlen
  omega
 ·have hn : n = l.length := by simpa [slLen] using hlen
  refine ⟨by omega, by simp only [hn]; omega, ?_⟩
  rw [mulS_eq, Int.toNat_natCast, Nat.zero_add]
  have hmul : (k + 1) * E.z ≤ n * E.z := Nat.mul_le_mul_right _ (by omega)
  rw [Nat.add_mul, Nat.one_mul] at hmul
  have hb : Nat.ble (k * E.z + j + vs.length) (n * E.z) = true := by rw [Nat.ble_eq]; omega
  refine hK b _ { s with h := s.h.set b (.cells (c.setAll (k * E.z + j) vs) (n * E.z) (some (kk, E.z))) } (by simp [blkOf]) ?_ (.inr ⟨b, kk, n, c.setAll (k * E.z + j) vs, rfl, by rw [E.flat_len, List.length_set, hn], by simp [PT.get_set_same], ?_⟩) ⟨fun d o hd hx => ?_, Nat.le_refl _, rfl⟩ rfl fun d hd => by simp [PT.get_set, hd]
  ·have hwr : wr (some (kk, E.z)) = true := by
    have := E.pos
    cases h : E.z with
    | zero => omega
    | succ => rfl
   simp only [wrN, writeAll, g2, hv, hb, hwr, Bool.and_self, if_true]
  ·rw [← E.flat_set hk hj ha]
   have hl : (splice (l.flatMap E.f) (k * E.z + j) vs).length = n * E.z := by
    simp only [splice, List.length_append, List.length_take, List.length_drop, g1]; omega
   refine getAll_of hl fun i hi => ?_
   obtain ⟨_, hg⟩ := PT.getAll_spec _ c 0 _ g3
   have hg' := hg i hi
   rw [Nat.zero_add] at hg' ⊢
   rw [PT.get_setAll]
   by_cases hin : k * E.z + j ≤ i ∧ i < k * E.z + j + vs.length
   ·rw [if_pos hin]
    simp only [splice]
    rw [List.append_assoc, List.getElem?_append_right (by simp only [List.length_take, g1]; omega), List.getElem?_append_left (by simp only [List.length_take, g1]; omega)]
    congr 1
    simp only [List.length_take, g1]; omega
   ·rw [if_neg hin, hg']
    simp only [splice]
    by_cases hlo : i < k * E.z + j
    ·rw [List.append_assoc, List.getElem?_append_left (by simp only [List.length_take, g1]; omega), List.getElem?_take_of_lt hlo]
    ·rw [List.getElem?_append_right (by simp only [List.length_append, List.length_take, g1]; omega)]
     simp only [List.length_append, List.length_take, List.getElem?_drop, g1]
     congr 1
     omega
  ·have : d ≠ b := by simpa using hd
   simp [PT.get_set, this, hx]
theorem Enc.flat_take (E : Enc α) {l : List α} {k : Nat} (hk : k ≤ l.length) : (l.take k).flatMap E.f = (l.flatMap E.f).take (k * E.z) := by
 have e : l.flatMap E.f = (l.take k).flatMap E.f ++ (l.drop k).flatMap E.f := by rw [← List.flatMap_append, List.take_append_drop]
 have h1 : ((l.take k).flatMap E.f).length = k * E.z := by rw [E.flat_len, List.length_take, Nat.min_eq_left hk]
 generalize (l.take k).flatMap E.f = A at *
 rw [e, ← h1, List.take_left]
theorem Enc.flat_drop (E : Enc α) {l : List α} {k : Nat} (hk : k ≤ l.length) : (l.drop k).flatMap E.f = (l.flatMap E.f).drop (k * E.z) := by
 have e : l.flatMap E.f = (l.take k).flatMap E.f ++ (l.drop k).flatMap E.f := by rw [← List.flatMap_append, List.take_append_drop]
 have h1 : ((l.take k).flatMap E.f).length = k * E.z := by rw [E.flat_len, List.length_take, Nat.min_eq_left hk]
 generalize (l.take k).flatMap E.f = A at *
 rw [e, ← h1, List.drop_left]
theorem So.take {E : Enc α} {s : St} {x : AV} {l : List α} (h : So E s x l) {k : Nat} (hk : k ≤ l.length) : ∃ y, sliceV E.z x none (some (.int .i64 (k : Int))) none = some y ∧ Sl E s y (l.take k) ∧ ∀ c, c ∈ blkOf y → c ∈ blkOf x := by
 have hlen := h.sl.len
 rcases h with ⟨rfl, h2⟩ | ⟨b, kk, n, c, rfl, g1, g2, g3⟩
 ·simp only [slLen, Option.some.injEq] at hlen
  have : k = 0 := by omega
  subst this
  exact ⟨.nilslice, rfl, by rw [List.take_zero]; exact .nil _ _, fun c hc => hc⟩
 ·have hn : n = l.length := by simpa [slLen] using hlen
  have e1 : sliceV E.z (.slice b 0 n (.var kk 0)) none (some (.int .i64 (k : Int))) none = sliceVar E.z b 0 n kk 0 0 k := by
   simp [sliceV, optInt, sliceSl, natOf]
  rw [e1]
  unfold sliceVar
  rw [if_pos (by simp [Nat.ble_eq]; omega)]
  cases hb : Nat.blt 0 n with
  | true =>
   simp only
   refine ⟨_, rfl, .inr ⟨b, 0, k, .var kk 0, by simp, by rw [E.flat_len, List.length_take, Nat.min_eq_left hk], c, _, _, g2, ?_, ?_⟩, by simp [blkOf]⟩
   ·rw [E.flat_len, List.length_take, Nat.min_eq_left hk, Nat.zero_add]; exact Nat.mul_le_mul_right _ (by omega)
   ·have hm : k * E.z ≤ n * E.z := Nat.mul_le_mul_right _ (by omega)
    have := getAll_part g3 0 (k * E.z) (by omega)
    rw [List.drop_zero] at this
    rw [E.flat_take hk]
    rw [List.length_take, g1, Nat.min_eq_left hm]
    exact this
  | false =>
   have h0 : n = 0 := by
    have : ¬ (Nat.blt 0 n = true) := by rw [hb]; simp
    rw [Nat.blt_eq] at this; omega
   have : k = 0 := by omega
   subst this
   exact ⟨_, rfl, by rw [List.take_zero]; exact .inl ⟨rfl, rfl⟩, by simp [blkOf]⟩
theorem So.drop {E : Enc α} {s : St} {x : AV} {l : List α} (h : So E s x l) {k : Nat} (hk : k ≤ l.length) : ∃ y, sliceV E.z x (some (.int .i64 (k : Int))) none none = some y ∧ Sl E s y (l.drop k) ∧ ∀ c, c ∈ blkOf y → c ∈ blkOf x := by
 have hlen := h.sl.len
 rcases h with ⟨rfl, h2⟩ | ⟨b, kk, n, c, rfl, g1, g2, g3⟩
 ·simp only [slLen, Option.some.injEq] at hlen
  have : k = 0 := by omega
  subst this
  have : l = [] := List.length_eq_zero_iff.1 hlen.symm
  subst this
  exact ⟨.nilslice, rfl, .nil _ _, fun c hc => hc⟩
 ·have hn : n = l.length := by simpa [slLen] using hlen
  have e1 : sliceV E.z (.slice b 0 n (.var kk 0)) (some (.int .i64 (k : Int))) none none = sliceVar E.z b 0 n kk 0 k n := by
   simp [sliceV, optInt, sliceSl, natOf]
  rw [e1]
  unfold sliceVar
  rw [if_pos (by simp [Nat.ble_eq]; omega)]
  cases hb : Nat.blt k n with
  | true =>
   simp only
   refine ⟨_, rfl, .inr ⟨b, 0 + k * E.z, n - k, .var kk (0 + k), rfl, by rw [E.flat_len, List.length_drop, hn], c, _, _, g2, ?_, ?_⟩, by simp [blkOf]⟩
   ·rw [E.flat_len, List.length_drop, ← hn, Nat.zero_add, ← Nat.add_mul]; exact Nat.mul_le_mul_right _ (by omega)
   ·have hm : k * E.z + (n - k) * E.z = n * E.z := by rw [← Nat.add_mul]; congr 1; omega
    have := getAll_part g3 (k * E.z) ((n - k) * E.z) (by omega)
    rw [List.take_of_length_le (by rw [List.length_drop, g1]; omega)] at this
    rw [E.flat_drop hk, List.length_drop, g1, show n * E.z - k * E.z = (n - k) * E.z by omega]
    rw [Nat.zero_add] at this ⊢
    exact this
  | false =>
   have h0 : n ≤ k := by
    have : ¬ (Nat.blt k n = true) := by rw [hb]; simp
    rw [Nat.blt_eq] at this; omega
   exact ⟨_, rfl, by rw [List.drop_eq_nil_of_le (by omega)]; exact .inl ⟨rfl, rfl⟩, by simp [blkOf]⟩
end
end Go.Eng

namespace Go.Eng
noncomputable section
variable {P : Program} {D : Tab}
structure Sides (p q r : Phi) : Prop where
 blk : ∀ b x, p.blk b = some x → r.blk b = q.blk b
 cap : ∀ k x, p.cap k = some x → r.cap k = q.cap k
 sym : ∀ k, r.sym k = q.sym k
 env : r.env = q.env
end
end Go.Eng

namespace Go.Eng
noncomputable section
variable {P : Program} {D : Tab}
inductive CV (s : St) (θ κ : Nat → Option Nat) : AV → AV → Prop
 | bool (b : Bool) : CV s θ κ (.bool b) (.bool b)
 | int (k : IntKind) (n : Int) : CV s θ κ (.int k n) (.int k n)
 | str (x : ByteArray) : CV s θ κ (.str x) (.str x)
 | nilslice : CV s θ κ .nilslice .nilslice
 | slice {d b q k : Nat} (o n : Nat) (hb : s.nx ≤ b) (h : θ b = some d) (hk : s.nc ≤ k) (hc : κ k = some q) : CV s θ κ (.slice d o n (.var q 0)) (.slice b o n (.var k 0))
 | pair {a a' c c' : AV} (h : CV s θ κ a a') (h' : CV s θ κ c c') : CV s θ κ (.tuple [a, c]) (.tuple [a', c'])
inductive CO (s : St) (θ κ : Nat → Option Nat) : AObj → AObj → Prop
 | mk {c1 c0 : PT AV} {n q k z : Nat} (hz : 0 < z) (hk : s.nc ≤ k) (hc : κ k = some q) (h : ∀ i a0, i < n → c0.get i = some a0 → ∃ a1, c1.get i = some a1 ∧ CV s θ κ a1 a0) : CO s θ κ (.cells c1 n (some (q, z))) (.cells c0 n (some (k, z)))
structure Iso (s : St) (hR : PT AObj) (v1 : AV) (s1 : St) (v0 : AV) (s0 : St) (θ κ : Nat → Option Nat) : Prop where
 keep : ∀ b o, hR.get b = some o → s1.h.get b = some o
 old : ∀ b, b < s.nx → s0.h.get b = s.h.get b
 new : ∀ b o0, s.nx ≤ b → s0.h.get b = some o0 → ∃ d o1, θ b = some d ∧ s1.h.get d = some o1 ∧ hR.get d = none ∧ CO s θ κ o1 o0
 inj : ∀ b b' d, s.nx ≤ b → s.nx ≤ b' → θ b = some d → θ b' = some d → b = b'
 top : ∀ b, s0.nx ≤ b → θ b = none
 topc : ∀ k, s0.nc ≤ k → κ k = none
 val : CV s θ κ v1 v0
 nx : s.nx ≤ s0.nx
 nc : s.nc ≤ s0.nc
 fs : s0.fs = s.fs
 fs1 : s1.fs = s.fs
end
end Go.Eng

namespace Go.Eng
noncomputable section
variable {α : Type} [Inhabited α]
def at' (l : List α) (i : Nat) : α := (l[i]?).getD default
theorem at_eq {l : List α} {i : Nat} (h : i < l.length) : l[i] = at' l i := by simp [at', h]
theorem at_set {l : List α} {i k : Nat} {x : α} (hi : i < l.length) : at' (l.set i x) k = if k = i then x else at' l k := by
 unfold at'
 rw [List.getElem?_set]
 by_cases e : k = i
 ·subst e; simp [hi]
 ·rw [if_neg (Ne.symm e), if_neg e]
def sw (l : List α) (i j : Nat) : List α := (l.set i (at' l j)).set j (at' l i)
@[simp] theorem sw_len (l : List α) (i j : Nat) : (sw l i j).length = l.length := by simp [sw]
theorem at_sw {l : List α} {i j k : Nat} (hi : i < l.length) (hj : j < l.length) : at' (sw l i j) k = if k = j then at' l i else if k = i then at' l j else at' l k := by
 unfold sw
 rw [at_set (by simpa using hj), at_set hi]
theorem sw_perm {l : List α} {i j : Nat} (hi : i < l.length) (hj : j < l.length) : (sw l i j).Perm l := by
 have h := Array.swap_perm (xs := l.toArray) (i := i) (j := j) (by simpa using hi) (by simpa using hj)
 have h2 := h.toList
 have e : (l.toArray.swap i j (by simpa using hi) (by simpa using hj)).toList = sw l i j := by
  simp [Array.swap, sw, at_eq hi, at_eq hj]
 rw [e] at h2
 simpa using h2
structure RP (a b : Nat) (l l' : List α) : Prop where
 len : l'.length = l.length
 out : ∀ k, (k < a ∨ b ≤ k) → at' l' k = at' l k
 perm : l'.Perm l
theorem RP.refl (a b : Nat) (l : List α) : RP a b l l := ⟨rfl, fun _ _ => rfl, .refl _⟩
theorem RP.trans {a b : Nat} {l l1 l2 : List α} (h : RP a b l l1) (h' : RP a b l1 l2) : RP a b l l2 := ⟨h'.len.trans h.len, fun k hk => (h'.out k hk).trans (h.out k hk), h'.perm.trans h.perm⟩
theorem RP.mono {a b a' b' : Nat} {l l' : List α} (h : RP a b l l') (ha : a' ≤ a) (hb : b ≤ b') : RP a' b' l l' := ⟨h.len, fun k hk => h.out k (by omega), h.perm⟩
theorem RP.sw {a b i j : Nat} {l : List α} (hi : i < l.length) (hj : j < l.length) (h1 : a ≤ i ∧ i < b) (h2 : a ≤ j ∧ j < b) : RP a b l (sw l i j) := by
 refine ⟨by simp, fun k hk => ?_, sw_perm hi hj⟩
 rw [at_sw hi hj, if_neg (by omega), if_neg (by omega)]
theorem take_of_at {l l' : List α} {a : Nat} (hl : l'.length = l.length) (h : ∀ k, k < a → at' l' k = at' l k) : l'.take a = l.take a := by
 refine List.ext_getElem (by simp [hl]) fun i h1 h2 => ?_
 have g1 : i < l'.length := by simp at h1; omega
 have g2 : i < l.length := by omega
 have : i < a := by simp at h1; omega
 rw [List.getElem_take, List.getElem_take, at_eq g1, at_eq g2, h i this]
theorem drop_of_at {l l' : List α} {b : Nat} (hl : l'.length = l.length) (h : ∀ k, b ≤ k → at' l' k = at' l k) : l'.drop b = l.drop b := by
 refine List.ext_getElem (by simp [hl]) fun i h1 h2 => ?_
 have g1 : b + i < l'.length := by simp at h1; omega
 have g2 : b + i < l.length := by omega
 rw [List.getElem_drop, List.getElem_drop, at_eq g1, at_eq g2, h (b + i) (by omega)]
omit [Inhabited α] in
theorem parts3 (l : List α) (a b : Nat) (hab : a ≤ b) : l = l.take a ++ ((l.drop a).take (b - a) ++ l.drop b) := by
 have h1 := (List.take_append_drop a l).symm
 have h2 := (List.take_append_drop (b - a) (l.drop a)).symm
 rw [List.drop_drop] at h2
 rw [show a + (b - a) = b by omega] at h2
 rw [← h2]; exact h1
theorem RP.mid {a b : Nat} {l l' : List α} (h : RP a b l l') (hab : a ≤ b) : ((l'.drop a).take (b - a)).Perm ((l.drop a).take (b - a)) := by
 have hp := h.perm
 rw [parts3 l a b hab, parts3 l' a b hab, take_of_at h.len fun k hk => h.out k (.inl hk), drop_of_at h.len fun k hk => h.out k (.inr hk)] at hp
 exact (List.perm_append_right_iff _).1 ((List.perm_append_left_iff _).1 hp)
theorem RP.all {a b : Nat} {l l' : List α} (h : RP a b l l') (hb : b ≤ l.length) {p : α → Prop} (hp : ∀ k, a ≤ k → k < b → p (at' l k)) : ∀ k, a ≤ k → k < b → p (at' l' k) := by
 intro k h1 h2
 have hm := h.mid (Nat.le_trans h1 (Nat.le_of_lt h2))
 have g1 : k < l'.length := by have := h.len; omega
 have hin : at' l' k ∈ (l'.drop a).take (b - a) := by
  rw [← at_eq g1]
  refine List.mem_iff_getElem.2 ⟨k - a, by simp; omega, ?_⟩
  rw [List.getElem_take, List.getElem_drop]
  congr 1; omega
 obtain ⟨i, hi, he⟩ := List.mem_iff_getElem.1 (hm.mem_iff.1 hin)
 simp at hi
 rw [List.getElem_take, List.getElem_drop, at_eq (by omega)] at he
 rw [← he]
 exact hp _ (by omega) (by omega)
structure LtO (lt : α → α → Bool) : Prop where
 irrefl : ∀ x, lt x x = false
 asym : ∀ x y, lt x y = true → lt y x = false
 ntrans : ∀ x y z, lt y x = false → lt z y = false → lt z x = false
def Rise (lt : α → α → Bool) (a b : Nat) (l : List α) : Prop := ∀ i j, a ≤ i → i < j → j < b → lt (at' l j) (at' l i) = false
theorem Rise.small {lt : α → α → Bool} {a b : Nat} {l : List α} (h : b ≤ a + 1) : Rise lt a b l := fun i j h1 h2 h3 => by omega
theorem Rise.less {lt : α → α → Bool} {a i j : Nat} {l : List α} (h : Rise lt a i l) (hj : j ≤ i) : Rise lt a j l := fun p q h1 h2 h3 => h p q h1 h2 (by omega)
theorem Rise.same {lt : α → α → Bool} {a i : Nat} {l l' : List α} (h : Rise lt a i l) (he : ∀ k, a ≤ k → k < i → at' l' k = at' l k) : Rise lt a i l' := fun p q h1 h2 h3 => by rw [he p h1 (by omega), he q (by omega) h3]; exact h p q h1 h2 h3
theorem wr_nat {a : Nat} (h : a < 9223372036854775808) : IntKind.wrap .i64 (a : Int) = (a : Int) := wrap_i64 (by omega) (by omega)
theorem wr_add {a b : Nat} (h : a + b < 9223372036854775808) : IntKind.wrap .i64 ((a : Int) + (b : Int)) = ((a + b : Nat) : Int) := by rw [wrap_i64 (by omega) (by omega)]; omega
theorem wr_succ {a : Nat} (h : a + 1 < 9223372036854775808) : IntKind.wrap .i64 ((a : Int) + 1) = ((a + 1 : Nat) : Int) := by rw [wrap_i64 (by omega) (by omega)]; omega
theorem wrap_u8 {a : Int} (h0 : 0 ≤ a) (h1 : a < 256) : IntKind.wrap .u8 a = a := by
 simp [IntKind.wrap, IntKind.bits, IntKind.signed]
 omega
theorem fdiv_pow (x c : Nat) : Int.fdiv (x : Int) (2 ^ c) = ((x / 2 ^ c : Nat) : Int) := by
 rw [Int.fdiv_eq_ediv_of_nonneg _ (Int.le_of_lt (Int.pow_pos (by decide)))]
 push_cast; rfl
def LenP (x n : Nat) : Prop := x < 2 ^ n ∧ (0 < n → 2 ^ (n - 1) ≤ x)
theorem LenP.shift {x c m : Nat} (hx : 2 ^ c ≤ x) (h : LenP (x / 2 ^ c) m) : LenP x (m + c) := by
 have h0 : 0 < 2 ^ c := Nat.pow_pos (by omega)
 obtain ⟨h1, h2⟩ := h
 refine ⟨?_, fun _ => ?_⟩
 ·rw [Nat.pow_add]
  exact (Nat.div_lt_iff_lt_mul h0).1 h1
 ·have hm : 0 < m := by
   refine Nat.pos_of_ne_zero fun e => ?_
   subst e
   have : 1 ≤ x / 2 ^ c := (Nat.le_div_iff_mul_le h0).2 (by omega)
   simp at h1
   omega
  have := h2 hm
  rw [show m + c - 1 = (m - 1) + c by omega, Nat.pow_add]
  exact (Nat.le_div_iff_mul_le h0).1 this
def lenAt (B : ByteArray) (i : Nat) : Bool :=
 match B.data.toList[i]? with
 | some c => decide (i < 2 ^ c.toNat) && (decide (c.toNat = 0) || decide (2 ^ (c.toNat - 1) ≤ i)) && decide (c.toNat ≤ 8)
 | none => false
theorem byteK_len {B : ByteArray} (hB : (List.range 256).all (lenAt B) = true) {y : Nat} (hy : y < 256) {i : Int} (hi : i = (y : Int)) {K : UInt8 → Prop} (hK : ∀ c : UInt8, LenP y c.toNat → c.toNat ≤ 8 → K c) : byteK B i K := by
 subst hi
 have := List.all_eq_true.1 hB y (List.mem_range.2 hy)
 unfold lenAt at this
 split at this
 ·rename_i c hc
  simp only [Bool.and_eq_true, Bool.or_eq_true, decide_eq_true_eq] at this
  exact ⟨by omega, c, by simpa using hc, hK c ⟨this.1.1, fun h => this.1.2.resolve_left (by omega)⟩ this.2⟩
 ·simp at this
variable {P : Program} {D : Tab}
def oneE {α : Type} (mk : α → AV) : Enc α := ⟨fun x => [mk x], 1, by decide, fun _ => rfl⟩
structure Row {α : Type} (mk : α → AV) (s0 : St) (x : AV) (s : St) (l : List α) : Prop where
 so : So (oneE mk) s x l
 frw : Frw (blkOf x) s0 s
 fr : Fr s
omit [Inhabited α] in
theorem Row.refl {mk : α → AV} {s : St} {x : AV} {l : List α} (h : So (oneE mk) s x l) (hf : Fr s) : Row mk s x s l := ⟨h, .refl _ _, hf⟩
omit [Inhabited α] in
theorem Row.ext {mk : α → AV} {s0 s s' : St} {x : AV} {l : List α} (h : Row mk s0 x s l) (hf : Frw [] s s') (hfr : Fr s') : Row mk s0 x s' l := ⟨h.so.ext hf, h.frw.trans (hf.mono (by simp)), hfr⟩
omit [Inhabited α] in
theorem Row.from {mk : α → AV} {s0 s s' : St} {x : AV} {l l' : List α} (h : Row mk s0 x s l) (h' : Row mk s x s' l') : Row mk s0 x s' l' := ⟨h'.so, h.frw.trans h'.frw, h'.fr⟩
theorem Row.rd {mk : α → AV} {s0 s : St} {x : AV} {l : List α} (h : Row mk s0 x s l) {i : Int} {k : Nat} (hi : i = (k : Int)) (hk : k < l.length) {R : α → Prop} (hR : R (at' l k)) : ixsK 1 x i fun b o => ∃ n, ld1 s (.ptr b o) = some (mk n) ∧ R n :=
 h.so.sl.ixs rfl hi hk fun b o hr => ⟨at' l k, by have := hr.ld1 0 (v := mk l[k]) rfl; rw [at_eq hk] at this; exact this, hR⟩
omit [Inhabited α] in
theorem Row.wr {mk : α → AV} (hm : ∀ x, ones [mk x] = true) {s0 s : St} {x : AV} {l : List α} (h : Row mk s0 x s l) {i : Int} {k : Nat} (hi : i = (k : Int)) (hk : k < l.length) (a : α) {R : St → Prop} (hR : ∀ s', Row mk s0 x s' (l.set k a) → R s') : ixsK 1 x i fun b o => ∃ s', wrN s (.ptr b o) [mk a] = some s' ∧ R s' :=
 So.ixsWr (j := 0) (vs := [mk a]) (a := a) h.so rfl hi hk (hm a) (Nat.le_refl _) (by simp [splice, oneE]) fun b o s' hb hw hso hf hn hc => ⟨s', hw, hR s' ⟨hso, h.frw.trans (hf.mono (by simp [hb])), h.fr.wr (h.so.there b (by simp [hb])) hn hc⟩⟩
end
end Go.Eng

namespace Go.Eng
noncomputable section
variable {P : Program} {D : Tab} {α : Type}
theorem So.wrMany {E : Enc α} {s : St} {x : AV} {l : List α} (h : So E s x l) {k : Nat} {l2 : List α} (h2 : 0 < l2.length) (hk : k + l2.length ≤ l.length) (hv : ones (l2.flatMap E.f) = true) :
  ∃ b kk n, x = .slice b 0 n (.var kk 0) ∧ n = l.length ∧ ∃ s', writeAll s b (k * E.z) (l2.flatMap E.f) = some s' ∧ So E s' x (l.take k ++ l2 ++ l.drop (k + l2.length)) ∧ Frw [b] s s' ∧ s'.nx = s.nx ∧ ∀ c, c ≠ b → s'.h.get c = s.h.get c := by
 have hlen := h.sl.len
 rcases h with ⟨rfl, h3⟩ | ⟨b, kk, n, c, rfl, g1, g2, g3⟩
 ·simp only [slLen, Option.some.injEq] at hlen
  omega
 ·have hn : n = l.length := by simpa [slLen] using hlen
  have hvl : (l2.flatMap E.f).length = l2.length * E.z := E.flat_len l2
  have hmul : (k + l2.length) * E.z ≤ n * E.z := Nat.mul_le_mul_right _ (by omega)
  rw [Nat.add_mul] at hmul
  have hb : Nat.ble (k * E.z + (l2.flatMap E.f).length) (n * E.z) = true := by rw [Nat.ble_eq]; omega
  have hsp : splice (l.flatMap E.f) (k * E.z) (l2.flatMap E.f) = (l.take k ++ l2 ++ l.drop (k + l2.length)).flatMap E.f := by
   rw [List.flatMap_append, List.flatMap_append, E.flat_take (by omega), E.flat_drop hk, splice, hvl, Nat.add_mul]
  have hl : (splice (l.flatMap E.f) (k * E.z) (l2.flatMap E.f)).length = n * E.z := by
   simp only [splice, List.length_append, List.length_take, List.length_drop, g1]; omega
  refine ⟨b, kk, n, rfl, hn, { s with h := s.h.set b (.cells (c.setAll (k * E.z) (l2.flatMap E.f)) (n * E.z) (some (kk, E.z))) }, ?_, .inr ⟨b, kk, n, c.setAll (k * E.z) (l2.flatMap E.f), rfl, by rw [← hsp, hl], by simp [PT.get_set_same], ?_⟩, ⟨fun d o hd hx => ?_, Nat.le_refl _, rfl⟩, rfl, fun d hd => by simp [PT.get_set, hd]⟩
  ·have hwr : wr (some (kk, E.z)) = true := by
    have := E.pos
    cases h : E.z with
    | zero => omega
    | succ => rfl
   simp only [writeAll, g2, hv, hb, hwr, Bool.and_self, if_true]
  ·rw [← hsp]
   refine getAll_of hl fun i hi => ?_
   obtain ⟨_, hg⟩ := PT.getAll_spec _ c 0 _ g3
   have hg' := hg i hi
   rw [Nat.zero_add] at hg' ⊢
   rw [PT.get_setAll]
   by_cases hin : k * E.z ≤ i ∧ i < k * E.z + (l2.flatMap E.f).length
   ·rw [if_pos hin]
    simp only [splice]
    rw [List.append_assoc, List.getElem?_append_right (by simp only [List.length_take, g1]; omega), List.getElem?_append_left (by simp only [List.length_take, g1]; omega)]
    congr 1
    simp only [List.length_take, g1]; omega
   ·rw [if_neg hin, hg']
    simp only [splice]
    by_cases hlo : i < k * E.z
    ·rw [List.append_assoc, List.getElem?_append_left (by simp only [List.length_take, g1]; omega), List.getElem?_take_of_lt hlo]
    ·rw [List.getElem?_append_right (by simp only [List.length_append, List.length_take, g1]; omega)]
     simp only [List.length_append, List.length_take, List.getElem?_drop, g1]
     congr 1
     omega
  ·have : d ≠ b := by simpa using hd
   simp [PT.get_set, this, hx]
theorem zeros_flat {E : Enc α} {z : AV} {z0 : α} (hz : z.cells = E.f z0) : ∀ n, zeros z.cells n = (List.replicate n z0).flatMap E.f
 | 0 => rfl
 | n + 1 => by rw [zeros, zeros_flat hz n, List.replicate_succ, List.flatMap_cons, hz]
theorem So.clear {E : Enc α} {s : St} {x : AV} {l : List α} (h : So E s x l) {k : Nat} (hk : k < l.length) {t et : TypeId} {ti ei : TyI} {z : AV} {z0 : α} (ht : D.ty.get t = some ti) (hd : ti.d = .slice et) (he : D.ty.get et = some ei) (hz : ei.zero = some z) (hz0 : z.cells = E.f z0) (h1 : ∀ n, ones ((List.replicate n z0).flatMap E.f) = true) :
  ∃ y, sliceV E.z x (some (.int .i64 (k : Int))) none none = some y ∧ ∃ s', clearA D s t y = some (.tuple [], s') ∧ So E s' x (l.take k ++ List.replicate (l.length - k) z0) ∧ Frw (blkOf x) s s' ∧ s'.nx = s.nx ∧ ∀ c, c ∉ blkOf x → s'.h.get c = s.h.get c := by
 obtain ⟨b, kk, n, rfl, hn, s', w1, w2, w3, w4, w5⟩ := h.wrMany (k := k) (l2 := List.replicate (l.length - k) z0) (by simp; omega) (by simp; omega) (h1 _)
 have e1 : sliceV E.z (.slice b 0 n (.var kk 0)) (some (.int .i64 (k : Int))) none none = some (.slice b (0 + k * E.z) (n - k) (.var kk (0 + k))) := by
  simp only [sliceV, optInt, sliceSl, natOf]
  unfold sliceVar
  have hb : Nat.blt k n = true := by rw [Nat.blt_eq]; omega
  have hn0 : n ≠ 0 := by omega
  simp [hb, hn0, Nat.ble_eq]
  omega
 refine ⟨_, e1, s', ?_, ?_, w3, w4, fun c hc => w5 c (by simpa [blkOf] using hc)⟩
 ·obtain ⟨m, hm⟩ : ∃ m, n - k = m + 1 := ⟨n - k - 1, by omega⟩
  rw [hm]
  simp only [clearA, ht, hd, he, hz]
  rw [← hm, zeros_flat hz0, hn, Nat.zero_add, w1]
 ·rw [List.length_replicate, show k + (l.length - k) = l.length by omega, List.drop_length, List.append_nil] at w2
  exact w2
end
end Go.Eng

namespace Go.Eng
noncomputable section
variable {P : Program} {D : Tab} {α : Type}
def ArgS (x : AV) : Prop := x = .nilslice ∨ x = .slice0 false ∨ ∃ b o n c, x = .slice b o n (.exact c) ∧ 0 < n ∧ n ≤ c
theorem Sl.takeA {E : Enc α} {s : St} {x : AV} {l : List α} (h : Sl E s x l) (ha : ArgS x) {k : Nat} (hk : k ≤ l.length) : ∃ y, sliceV E.z x none (some (.int .i64 (k : Int))) none = some y ∧ Sl E s y (l.take k) := by
 have hlen := h.len
 rcases ha with rfl | rfl | ⟨b, o, n, c, rfl, h0, hc⟩
 ·have : l = [] := List.length_eq_zero_iff.1 (by simpa [slLen] using hlen.symm)
  subst this
  have : k = 0 := by simpa using hk
  subst this
  exact ⟨.nilslice, rfl, .nil _ _⟩
 ·have : l = [] := List.length_eq_zero_iff.1 (by simpa [slLen] using hlen.symm)
  subst this
  have : k = 0 := by simpa using hk
  subst this
  exact ⟨.slice0 false, rfl, .inl ⟨rfl, rfl⟩⟩
 ·have hn : n = l.length := by simpa [slLen] using hlen
  rcases h with ⟨h1, _⟩ | ⟨b', o', n', c', h1, h2, h3⟩
  ·simp [slZero] at h1
  ·simp only [AV.slice.injEq] at h1
   obtain ⟨rfl, rfl, rfl, rfl⟩ := h1
   refine ⟨.slice b o k (.exact c), ?_, .inr ⟨b, o, k, _, rfl, by rw [E.flat_len, List.length_take, Nat.min_eq_left hk], ?_⟩⟩
   ·have e1 : sliceV E.z (.slice b o n (.exact c)) none (some (.int .i64 (k : Int))) none = sliceEx E.z b o c 0 k c := by
     simp [sliceV, optInt, sliceSl]
    rw [e1]
    unfold sliceEx
    have hb : Nat.beq c 0 = false := by
     cases c with
     | zero => omega
     | succ c => rfl
    simp [Nat.ble_eq, hb]
    omega
   ·obtain ⟨d, N, tl, g1, g2, g3⟩ := h3
    have hz : (l.flatMap E.f).length = l.length * E.z := E.flat_len l
    have hm : k * E.z ≤ l.length * E.z := Nat.mul_le_mul_right _ hk
    have hl : ((l.take k).flatMap E.f).length = k * E.z := by rw [E.flat_len, List.length_take, Nat.min_eq_left hk]
    refine ⟨d, N, tl, g1, by rw [hl]; omega, ?_⟩
    rw [hl, E.flat_take hk]
    have := getAll_part g3 0 (k * E.z) (by rw [hz]; omega)
    simpa using this
end
end Go.Eng

namespace Go.Eng
noncomputable section
variable {α : Type} [Inhabited α]
def Lex (lt : α → α → Bool) (tie : α → α → Prop) (x y : α) : Prop := lt y x = false ∧ (lt x y = false → tie x y)
def LexS (lt : α → α → Bool) (tie : α → α → Prop) (a b : Nat) (l : List α) : Prop := ∀ i j, a ≤ i → i < j → j < b → Lex lt tie (at' l i) (at' l j)
variable {lt : α → α → Bool} {tie : α → α → Prop}
theorem LexS.small {a b : Nat} {l : List α} (h : b ≤ a + 1) : LexS lt tie a b l := fun i j h1 h2 h3 => by omega
theorem LexS.less {a b c d : Nat} {l : List α} (h : LexS lt tie a b l) (h1 : a ≤ c) (h2 : d ≤ b) : LexS lt tie c d l := fun i j g1 g2 g3 => h i j (by omega) g2 (by omega)
theorem LexS.same {a b : Nat} {l l' : List α} (h : LexS lt tie a b l) (he : ∀ k, a ≤ k → k < b → at' l' k = at' l k) : LexS lt tie a b l' := fun i j h1 h2 h3 => by rw [he i h1 (by omega), he j (by omega) h3]; exact h i j h1 h2 h3
theorem LexS.rise {a b : Nat} {l : List α} (h : LexS lt tie a b l) : Rise lt a b l := fun i j h1 h2 h3 => (h i j h1 h2 h3).1
theorem LexS.join {a m b : Nat} {l : List α} (h1 : LexS lt tie a m l) (h2 : LexS lt tie m b l) (h3 : ∀ i j, a ≤ i → i < m → m ≤ j → j < b → Lex lt tie (at' l i) (at' l j)) : LexS lt tie a b l := fun i j g1 g2 g3 => by
 by_cases c : j < m
 ·exact h1 i j g1 g2 c
 ·by_cases c2 : m ≤ i
  ·exact h2 i j c2 g2 g3
  ·exact h3 i j g1 (by omega) (by omega) g3
variable {P : Program} {D : Tab}
structure RowE {α : Type} (E : Enc α) (ok : α → Prop) (s0 : St) (x : AV) (s : St) (l : List α) : Prop where
 so : So E s x l
 frw : Frw (blkOf x) s0 s
 fr : Fr s
 ok : ∀ y, y ∈ l → ok y
section
omit [Inhabited α]
variable {E : Enc α} {ok : α → Prop} {s0 s s' : St} {x : AV} {l l' : List α}
theorem RowE.ext (h : RowE E ok s0 x s l) (hf : Frw [] s s') (hfr : Fr s') : RowE E ok s0 x s' l := ⟨h.so.ext hf, h.frw.trans (hf.mono (by simp)), hfr, h.ok⟩
end
theorem RowE.at {E : Enc α} {ok : α → Prop} {s0 s : St} {x : AV} {l : List α} (h : RowE E ok s0 x s l) {k : Nat} (hk : k < l.length) : ok (at' l k) := by rw [← at_eq hk]; exact h.ok _ (List.getElem_mem hk)
theorem RowE.rd {E : Enc α} {ok : α → Prop} {s0 s : St} {x : AV} {l : List α} (h : RowE E ok s0 x s l) {z : Nat} (hz : z = E.z) {i : Int} {k : Nat} (hi : i = (k : Int)) (hk : k < l.length) {K : Nat → Nat → Prop} (hK : ∀ b o, Rd s b o (E.f (at' l k)) → K b o) : ixsK z x i K :=
 h.so.sl.ixs hz hi hk fun b o hr => hK b o (by rw [at_eq hk] at hr; exact hr)
omit [Inhabited α] in
theorem RowE.wr {E : Enc α} {ok : α → Prop} (ho : ∀ y, ok y → ones (E.f y) = true) {s0 s : St} {x : AV} {l : List α} (h : RowE E ok s0 x s l) {z : Nat} (hz : z = E.z) {i : Int} {k : Nat} (hi : i = (k : Int)) (hk : k < l.length) {a : α} (ha : ok a) {R : St → Prop} (hR : ∀ s', RowE E ok s0 x s' (l.set k a) → R s') : ixsK z x i fun b o => ∃ s', wrN s (.ptr b o) (E.f a) = some s' ∧ R s' :=
 So.ixsWr (j := 0) (vs := E.f a) (a := a) h.so hz hi hk (ho a ha) (by rw [E.len]; omega) (by
  have h1 : (E.f l[k]).drop (0 + (E.f a).length) = [] := List.drop_eq_nil_of_le (by rw [E.len, E.len]; omega)
  rw [splice, h1]; simp) fun b o s' hb hw hso hf hn hc => ⟨s', hw, hR s' ⟨hso, h.frw.trans (hf.mono (by simp [hb])), h.fr.wr (h.so.there b (by simp [hb])) hn hc, fun y hy => by
   rcases List.mem_or_eq_of_mem_set hy with h1 | h1
   ·exact h.ok y h1
   ·rw [h1]; exact ha⟩⟩
end
end Go.Eng

namespace Go.Eng
noncomputable section
variable {P : Program} {D : Tab}
theorem NewO.at {s s' : St} {o : AObj} {b : Nat} (h : NewO s o b s') : objAt s' b = some o := by
 obtain ⟨rfl, rfl, _⟩ := h
 simp [objAt, St.new, PT.get_set]
theorem Frw.go {s0 s1 s2 : St} {M M' : List Nat} (h : Frw M s0 s1) (h' : Frw M' s1 s2) (hm : ∀ c, c ∈ M' → c ∈ M ∨ s0.h.get c = Option.none) : Frw M s0 s2 :=
 ⟨fun c o hc ho => h'.1 c o (fun hx => (hm c hx).elim hc fun e => by rw [e] at ho; simp at ho) (h.1 c o hc ho), Nat.le_trans h.2.1 h'.2.1, h'.2.2.trans h.2.2⟩
def SeqA (P : Program) (D : Tab) (B : List Nat) (s0 : St) (f : AV) (n : Nat) (arg : Nat → List AV) : Prop :=
 ∀ (l : Nat) (s : St) (M0 M : List Nat) (J : Nat → St → Prop) (K : St → Prop), Frw M0 s0 s → Fr s → (∀ c, c ∈ M0 → c ∉ B) → (∀ c, c ∈ M → c ∉ B) → J 0 s →
  (∀ i s1, i < n → J i s1 → Frw M s s1 → Fr s1 → RoundA P l (arg i) s1 fun v s2 => v = .bool true ∧ J (i + 1) s2 ∧ Frw M s s2 ∧ Fr s2) →
  (∀ i s1 s2, J i s1 → Frw [] s1 s2 → J i s2) → (∀ s1, J n s1 → Frw M s s1 → Fr s1 → K s1) → itK P D s f l K
theorem SeqA.fwd {B : List Nat} {s0 s1 : St} {f : AV} {n : Nat} {arg : Nat → List AV} {M : List Nat} (h : SeqA P D B s0 f n arg) (hf : Frw M s0 s1) (hM : ∀ c, c ∈ M → c ∉ B) : SeqA P D B s1 f n arg :=
 fun l s M0 M' J K h1 h2 h3 h4 h5 h6 h7 h8 => h l s (M ++ M0) M' J K ⟨fun c o hc ho => h1.1 c o (fun hm => hc (by simp [hm])) (hf.1 c o (fun hm => hc (by simp [hm])) ho), Nat.le_trans hf.2.1 h1.2.1, h1.2.2.trans hf.2.2⟩ h2 (fun c hc => by
  rcases List.mem_append.1 hc with hc | hc
  ·exact hM c hc
  ·exact h3 c hc) h4 h5 h6 h7 h8
end
end Go.Eng

namespace Go.Eng
noncomputable section
variable {P : Program} {D : Tab} {α : Type}
theorem appendAll0 {E : Enc α} {s : St} {b : Nat} {y : AV} {l2 : List α} {t et : TypeId} {ti ei : TyI} {zv : AV} (hx : Own s b []) (hy : Sl E s y l2) (hti : D.ty.get t = some ti) (hd : ti.d = .slice et) (hei : D.ty.get et = some ei) (hsz : ei.size = E.z) (hzv : ei.zero = some zv) (hzl : zv.cells.length = E.z)
  (h1 : ∀ a, a ∈ l2 → ones (E.f a) = true) (hb : (l2.length + l2.length / 4 + 600) * ei.bytes ≤ pow48) (hbz : l2.length ≤ pow48) (hfr : Fr s) :
  ∃ v s', appendX D s t t (.slice b 0 0 (.exact 0)) y = some (v, s') ∧ Sl E s' v l2 ∧ (l2 = [] ∨ (So E s' v l2 ∧ ∀ c, c ∈ blkOf v → s.h.get c = none)) ∧ Frw [] s s' ∧ Fr s' := by
 obtain ⟨y1, y2⟩ := sliceCells_of hy
 have hs0 : Sl E s (.slice b 0 0 (.exact 0)) [] := .inr ⟨b, 0, 0, .exact 0, rfl, by simp, hx.rd⟩
 obtain ⟨x1, x2⟩ := sliceCells_of hs0
 have hzb : Nat.beq zv.cells.length ei.size = true := by rw [hzl, hsz, Nat.beq_refl]
 have hx0 : appendX D s t t (.slice b 0 0 (.exact 0)) y = appendA D s t t (.slice b 0 0 (.exact 0)) y := rfl
 rw [hx0]
 have hsq : isSeq ti.d = true := by rw [hd]; rfl
 simp only [appendA, hti, hd, hei, hzv, isSeq, hzb, Bool.and_self, if_true, appendB, x2, y2]
 rw [hsz, x1, y1]
 cases hl2 : l2.length with
 | zero =>
  have h0 : l2 = [] := List.length_eq_zero_iff.1 hl2
  subst h0
  simp only [isSl, if_true]
  exact ⟨_, s, rfl, hs0, .inl trivial, .refl _ _, hfr⟩
 | succ m =>
  rw [hl2] at hb hbz
  have q2 : Nat.ble (0 + (m + 1)) pow48 = true := by rw [Nat.ble_eq]; omega
  have q3 : Nat.ble ((0 + (m + 1) + (0 + (m + 1)) / 4 + 600) * ei.bytes) pow48 = true := by rw [Nat.ble_eq, Nat.zero_add]; exact hb
  simp only [List.length_nil, q2, q3, Bool.and_self, if_true]
  simp only [appendC, List.flatMap_nil, List.nil_append, Nat.zero_add]
  have hso : So E (growA s s.h E.z (m + 1) (l2.flatMap E.f)).2 (growA s s.h E.z (m + 1) (l2.flatMap E.f)).1 l2 := by
   refine .inr ⟨s.nx, s.nc, m + 1, PT.setAll .nil 0 (l2.flatMap E.f), rfl, by rw [E.flat_len, hl2], by simp [growA], ?_⟩
   refine getAll_of (by rw [E.flat_len, hl2]) fun i hi => ?_
   rw [PT.get_setAll, if_pos (by rw [E.flat_len, hl2]; omega)]
   simp
  refine ⟨_, _, rfl, hso.sl, .inr ⟨hso, fun c hc => ?_⟩, ⟨fun c o hc ho => ?_, by simp [growA], rfl⟩, (growA_gro hfr (fun _ h => h) _ _ _).1⟩
  ·have : c = s.nx := by simpa [growA, blkOf] using hc
   rw [this]; exact hfr _ (Nat.le_refl _)
  ·have : c ≠ s.nx := by rintro rfl; rw [hfr _ (Nat.le_refl _)] at ho; simp at ho
   simp [growA, PT.get_set, this]
   exact ho
end
end Go.Eng

namespace Go.Eng
noncomputable section
variable {P : Program} {D : Tab} {α : Type}
def RoomS (z n : Nat) (cap : ACap) (tl : Option (Nat × Nat)) : Prop := (∃ k, cap = .var k 0 ∧ tl = some (k, z)) ∨ (cap = .exact n ∧ tl = none)
def MkP (E : Enc α) (s : St) (x : AV) (n k : Nat) (a : α) : Prop :=
 (x = .nilslice ∧ n = 0) ∨ ∃ b cap c tl, x = .slice b 0 n cap ∧ s.h.get b = some (.cells c (n * E.z) tl) ∧ (∀ i, i < k * E.z → c.get i = (E.f a)[i % E.z]?) ∧ RoomS E.z n cap tl
def Mk (E : Enc α) (s : St) (x : AV) (n : Nat) (a : α) : Prop :=
 (x = .nilslice ∧ n = 0) ∨ ∃ b cap c N tl, x = .slice b 0 n cap ∧ s.h.get b = some (.cells c N tl) ∧ n * E.z ≤ N ∧ (∀ i, i < N → c.get i = (E.f a)[i % E.z]?) ∧ RoomS E.z n cap tl
theorem MkP.mk {E : Enc α} {s : St} {x : AV} {n : Nat} {a : α} (h : MkP E s x n n a) : Mk E s x n a := by
 rcases h with h | ⟨b, cap, c, tl, h1, h2, h3, h4⟩
 ·exact .inl h
 ·exact .inr ⟨b, cap, c, _, tl, h1, h2, Nat.le_refl _, h3, h4⟩
theorem So.mkP {E : Enc α} {s : St} {x : AV} {l : List α} (h : So E s x l) (a : α) : MkP E s x l.length 0 a := by
 have hlen := h.sl.len
 rcases h with ⟨rfl, h2⟩ | ⟨b, k, n, c, rfl, h1, h2, h3⟩
 ·simp only [slLen, Option.some.injEq] at hlen
  exact .inl ⟨rfl, hlen.symm⟩
 ·have hn : n = l.length := by simpa [slLen] using hlen
  subst hn
  exact .inr ⟨b, _, c, _, rfl, h2, fun i hi => by omega, .inl ⟨k, rfl, rfl⟩⟩
theorem Own.mkP {E : Enc α} {s : St} {b n : Nat} {cs : List AV} (h : Own s b cs) (hn : cs.length = n * E.z) (a : α) : MkP E s (.slice b 0 n (.exact n)) n 0 a := by
 obtain ⟨c, h1, h2⟩ := h
 rw [hn] at h1
 exact .inr ⟨b, _, c, _, rfl, h1, fun i hi => by omega, .inr ⟨rfl, rfl⟩⟩
theorem MkP.len {E : Enc α} {s : St} {x : AV} {n k : Nat} {a : α} (h : MkP E s x n k a) : slLen x = some n := by
 rcases h with ⟨rfl, rfl⟩ | ⟨b, cap, c, tl, rfl, _⟩ <;> rfl
theorem Mk.len {E : Enc α} {s : St} {x : AV} {n : Nat} {a : α} (h : Mk E s x n a) : slLen x = some n := by
 rcases h with ⟨rfl, rfl⟩ | ⟨b, cap, c, N, tl, rfl, _⟩ <;> rfl
theorem MkP.beside {E : Enc α} {s s' : St} {x : AV} {n k : Nat} {a : α} {M : List Nat} (h : MkP E s x n k a) (hf : Frw M s s') (hM : ∀ c, c ∈ M → c ∉ blkOf x) : MkP E s' x n k a := by
 rcases h with h | ⟨b, cap, c, tl, rfl, h2, h3⟩
 ·exact .inl h
 ·exact .inr ⟨b, cap, c, tl, rfl, hf.1 _ _ (fun hc => hM _ hc (by simp [blkOf])) h2, h3⟩
theorem Mk.beside {E : Enc α} {s s' : St} {x : AV} {n : Nat} {a : α} {M : List Nat} (h : Mk E s x n a) (hf : Frw M s s') (hM : ∀ c, c ∈ M → c ∉ blkOf x) : Mk E s' x n a := by
 rcases h with h | ⟨b, cap, c, N, tl, rfl, h2, h3⟩
 ·exact .inl h
 ·exact .inr ⟨b, cap, c, N, tl, rfl, hf.1 _ _ (fun hc => hM _ hc (by simp [blkOf])) h2, h3⟩
theorem Mk.there {E : Enc α} {s : St} {x : AV} {n : Nat} {a : α} (h : Mk E s x n a) : ∀ c, c ∈ blkOf x → s.h.get c ≠ none := by
 rcases h with ⟨rfl, _⟩ | ⟨b, cap, c, N, tl, rfl, h2, h3⟩
 ·simp [blkOf]
 ·intro c hc
  have : c = b := by simpa [blkOf] using hc
  rw [this, h2]; simp
theorem MkP.there {E : Enc α} {s : St} {x : AV} {n k : Nat} {a : α} (h : MkP E s x n k a) : ∀ c, c ∈ blkOf x → s.h.get c ≠ none := by
 rcases h with ⟨rfl, _⟩ | ⟨b, cap, c, tl, rfl, h2, h3⟩
 ·simp [blkOf]
 ·intro c hc
  have : c = b := by simpa [blkOf] using hc
  rw [this, h2]; simp
theorem mod_at {z k j : Nat} (h1 : k * z ≤ j) (h2 : j < k * z + z) : j % z = j - k * z := by
 obtain ⟨d, rfl⟩ : ∃ d, j = k * z + d := ⟨j - k * z, by omega⟩
 rw [Nat.mul_add_mod_self_right, Nat.mod_eq_of_lt (by omega)]
 omega
theorem MkP.put {E : Enc α} {s : St} {x : AV} {n k : Nat} {a : α} (h : MkP E s x n k a) {z : Nat} (hz : z = E.z) {i : Int} (hi : i = (k : Int)) (hk : k < n) {vs : List AV} (hv : ones vs = true) (ha : vs = E.f a) {K : Nat → Nat → Prop}
  (hK : ∀ b o s', blkOf x = [b] → wrN s (.ptr b o) vs = some s' → MkP E s' x n (k + 1) a → Frw [b] s s' → s'.nx = s.nx → (∀ c, c ≠ b → s'.h.get c = s.h.get c) → K b o) : ixsK z x i K := by
 subst hz; subst hi; subst ha
 rcases h with ⟨rfl, rfl⟩ | ⟨b, cap, c, tl, rfl, h1, h2, h3⟩
 ·omega
 ·refine ⟨by omega, by omega, ?_⟩
  rw [mulS_eq, Int.toNat_natCast, Nat.zero_add]
  have hmul : (k + 1) * E.z ≤ n * E.z := Nat.mul_le_mul_right _ (by omega)
  rw [Nat.add_mul, Nat.one_mul] at hmul
  have hl := E.len a
  have hb : Nat.ble (k * E.z + (E.f a).length) (n * E.z) = true := by rw [Nat.ble_eq]; omega
  have hwr : wr tl = true := by
   rcases h3 with ⟨k', _, rfl⟩ | ⟨_, rfl⟩
   ·have := E.pos
    cases h : E.z with
    | zero => omega
    | succ => rfl
   ·rfl
  refine hK b _ { s with h := s.h.set b (.cells (c.setAll (k * E.z) (E.f a)) (n * E.z) tl) } (by simp [blkOf]) ?_ (.inr ⟨b, cap, c.setAll (k * E.z) (E.f a), tl, rfl, by simp [PT.get_set_same], fun i hi => ?_, h3⟩) ⟨fun d o hd hx => ?_, Nat.le_refl _, rfl⟩ rfl fun d hd => by simp [PT.get_set, hd]
  ·simp only [wrN, writeAll, h1, hv, hb, hwr, Bool.and_self, if_true]
  ·rw [Nat.add_mul, Nat.one_mul] at hi
   rw [PT.get_setAll]
   by_cases hin : k * E.z ≤ i ∧ i < k * E.z + (E.f a).length
   ·rw [if_pos hin, mod_at hin.1 (by omega)]
   ·rw [if_neg hin]
    exact h2 i (by omega)
  ·have : d ≠ b := by simpa using hd
   simp [PT.get_set, this, hx]
theorem Mk.at {E : Enc α} {s : St} {x : AV} {n : Nat} {a : α} (h : Mk E s x n a) {z : Nat} (hz : z = E.z) {i : Int} {k : Nat} (hi : i = (k : Int)) (hk : k < n) {K : Nat → Nat → Prop} (hK : ∀ b o, Rd s b o (E.f a) → K b o) : ixsK z x i K := by
 subst hz; subst hi
 rcases h with ⟨rfl, rfl⟩ | ⟨b, cap, c, N, tl, rfl, h1, h2, h3, h4⟩
 ·omega
 ·refine ⟨by omega, by omega, ?_⟩
  rw [mulS_eq, Int.toNat_natCast, Nat.zero_add]
  have hmul : (k + 1) * E.z ≤ n * E.z := Nat.mul_le_mul_right _ (by omega)
  rw [Nat.add_mul, Nat.one_mul] at hmul
  have hl := E.len a
  refine hK b _ ⟨c, N, tl, h1, by omega, getAll_of rfl fun i hi => ?_⟩
  rw [h3 _ (by omega), mod_at (k := k) (by omega) (by omega)]
  congr 1; omega
def ColS (col : Nat → Option Nat) (x : AV) (i : Option Nat) : Prop := ∀ c, c ∈ blkOf x → col c = i
def GrowC (E : Enc α) (mark : Nat → α) (col : Nat → Option Nat) (s : St) (col' : Nat → Option Nat) (s' : St) : Prop :=
 (∀ y m j, Mk E s y m (mark j) → ColS col y (some j) → Mk E s' y m (mark j) ∧ ColS col' y (some j)) ∧ (∀ c o, s.h.get c = some o → col c = none → s'.h.get c = some o ∧ col' c = none) ∧ s.nx ≤ s'.nx ∧ s'.fs = s.fs
theorem GrowC.refl (E : Enc α) (mark : Nat → α) (col : Nat → Option Nat) (s : St) : GrowC E mark col s col s := ⟨fun _ _ _ h1 h2 => ⟨h1, h2⟩, fun _ _ h1 h2 => ⟨h1, h2⟩, Nat.le_refl _, rfl⟩
theorem GrowC.trans {E : Enc α} {mark : Nat → α} {c1 c2 c3 : Nat → Option Nat} {s1 s2 s3 : St} (h : GrowC E mark c1 s1 c2 s2) (h' : GrowC E mark c2 s2 c3 s3) : GrowC E mark c1 s1 c3 s3 :=
 ⟨fun y m j a b => let ⟨a', b'⟩ := h.1 y m j a b; h'.1 y m j a' b', fun c o a b => let ⟨a', b'⟩ := h.2.1 c o a b; h'.2.1 c o a' b', Nat.le_trans h.2.2.1 h'.2.2.1, h'.2.2.2.trans h.2.2.2⟩
theorem GrowC.new {E : Enc α} {mark : Nat → α} {col : Nat → Option Nat} {s s' : St} (hf : Frw [] s s') (hfr : Fr s) : GrowC E mark col s (fun c => if c < s.nx then col c else none) s' := by
 refine ⟨fun y m j a b => ⟨a.beside hf (by simp), fun c hc => ?_⟩, fun c o a b => ⟨hf.1 c o (by simp) a, ?_⟩, hf.2.1, hf.2.2⟩
 ·have := hfr.lt (a.there c hc)
  simp only [this, if_true]
  exact b c hc
 ·have := hfr.lt (b := c) (by rw [a]; simp)
  simp only [this, if_true]
  exact b
theorem Mk.app {E : Enc α} {mark : Nat → α} {col : Nat → Option Nat} {s : St} {x : AV} {n j : Nat} {e : List AV} {t et : TypeId} {ti ei : TyI} {m : Nat} {zv : AV} (h : Mk E s x n (mark j)) (hcol : ColS col x (some j)) (hti : D.ty.get t = some ti) (hd : ti.d = .slice et) (hei : D.ty.get et = some ei) (hsz : ei.size = E.z) (hzv : ei.zero = some zv) (hzl : zv.cells.length = E.z)
  (h1 : ones e = true) (hR : Rd s m 0 e) (he : e = E.f (mark j)) (hb : (n + 1 + (n + 1) / 4 + 600) * ei.bytes ≤ pow48) (hbz : n + 1 ≤ pow48) (hfr : Fr s) {K : AV → St → Prop}
  (hK : ∀ v s' col', Mk E s' v (n + 1) (mark j) → ColS col' v (some j) → GrowC E mark col s col' s' → Fr s' → K v s') : appK D s t t x (.slice m 0 1 (.exact 1)) K := by
 subst he
 have hl := E.len (mark j)
 obtain ⟨c0, n0, tl0, r1, r2, r3⟩ := hR
 have hy1 : sliceCells s.h E.z (.slice m 0 1 (.exact 1)) = some (E.f (mark j)) := by
  have : Nat.ble (0 + 1 * E.z) n0 = true := by rw [Nat.ble_eq]; omega
  simp only [sliceCells, r1, this, if_true]
  rw [Nat.one_mul, ← hl]; exact r3
 have hzb : Nat.beq zv.cells.length E.z = true := by rw [hzl, Nat.beq_refl]
 have hz0 := E.pos
 have q1 : Nat.ble ((n + 1 + (n + 1) / 4 + 600) * ei.bytes) pow48 = true := by rw [Nat.ble_eq]; exact hb
 have q2 : Nat.ble (n + 1) pow48 = true := by rw [Nat.ble_eq]; exact hbz
 have grow : ∀ old : List AV, old.length = n * E.z → (∀ i, i < n * E.z → old[i]? = (E.f (mark j))[i % E.z]?) → K (growA s s.h E.z (n + 1) (old ++ E.f (mark j))).1 (growA s s.h E.z (n + 1) (old ++ E.f (mark j))).2 := by
  intro old ho hg
  have hf : Frw [] s (growA s s.h E.z (n + 1) (old ++ E.f (mark j))).2 := ⟨fun c o hc ho => by
   have : c ≠ s.nx := by rintro rfl; rw [hfr _ (Nat.le_refl _)] at ho; simp at ho
   simp [growA, PT.get_set, this]; exact ho, by simp [growA], rfl⟩
  have hG := GrowC.new (E := E) (mark := mark) (col := col) hf hfr
  refine hK _ _ (fun c => if c = s.nx then some j else if c < s.nx then col c else none) (.inr ⟨s.nx, .var s.nc 0, PT.setAll .nil 0 (old ++ E.f (mark j)), (n + 1) * E.z, some (s.nc, E.z), rfl, by simp only [growA, PT.get_set_same], Nat.le_refl _, fun i hi => ?_, .inl ⟨_, rfl, rfl⟩⟩) (fun c hc => ?_) ⟨fun y m j' a b => ?_, fun c o a b => ?_, hG.2.2⟩ (growA_gro hfr (fun _ h => h) _ _ _).1
  ·rw [PT.get_setAll, if_pos (by simp only [List.length_append, ho, hl]; rw [Nat.add_mul] at hi; omega), Nat.sub_zero]
   by_cases hin : i < n * E.z
   ·rw [List.getElem?_append_left (by omega)]; exact hg i hin
   ·rw [Nat.add_mul, Nat.one_mul] at hi
    rw [List.getElem?_append_right (by omega), ho, mod_at (k := n) (by omega) (by omega)]
  ·have : c = s.nx := by simpa [growA, blkOf] using hc
   simp [this]
  ·obtain ⟨a', b'⟩ := hG.1 y m j' a b
   refine ⟨a', fun c hc => ?_⟩
   have := hfr.lt (a.there c hc)
   have hne : c ≠ s.nx := by omega
   simp only [hne, if_false]
   exact b' c hc
  ·have := hfr.lt (b := c) (by rw [a]; simp)
   have hne : c ≠ s.nx := by omega
   obtain ⟨a', b'⟩ := hG.2.1 c o a b
   exact ⟨a', by simp only [hne, if_false]; exact b'⟩
 rcases h with ⟨rfl, rfl⟩ | ⟨b, cap, c, N, tl, rfl, g1, g2, g3, g4⟩
 ·refine .inl ⟨_, _, ?_, grow [] (by simp) (fun i hi => by omega)⟩
  rw [show appendX D s t t .nilslice (.slice m 0 1 (.exact 1)) = appendA D s t t .nilslice (.slice m 0 1 (.exact 1)) from rfl]
  simp only [appendA, hti, hd, hei, hzv, isSeq, hsz, hzb, Bool.and_self, if_true, appendB, avLen, hy1]
  simp only [sliceCells, q1, q2, Bool.and_self, if_true, appendC, List.nil_append, Nat.zero_add]
 ·obtain ⟨old, ho, hol, hog⟩ : ∃ old, c.getAll 0 (n * E.z) = some old ∧ old.length = n * E.z ∧ ∀ i, i < n * E.z → old[i]? = (E.f (mark j))[i % E.z]? := by
   let old : List AV := (List.range (n * E.z)).map fun i => ((E.f (mark j))[i % E.z]?).getD .undef
   have hgo : ∀ i, i < n * E.z → old[i]? = (E.f (mark j))[i % E.z]? := fun i hi => by
    have : i % E.z < (E.f (mark j)).length := by rw [hl]; exact Nat.mod_lt _ hz0
    simp only [old, List.getElem?_map, List.getElem?_range hi, Option.map_some]
    rw [List.getElem?_eq_getElem this]
    rfl
   have hlo : old.length = n * E.z := by simp [old]
   exact ⟨old, getAll_of hlo fun i hi => by rw [Nat.zero_add, g3 i (by omega), hgo i hi], hlo, hgo⟩
  have hx1 : sliceCells s.h E.z (.slice b 0 n cap) = some old := by
   have : Nat.ble (0 + n * E.z) N = true := by rw [Nat.ble_eq]; omega
   simp only [sliceCells, g1, this, if_true]
   exact ho
  rcases g4 with ⟨k, rfl, rfl⟩ | ⟨rfl, rfl⟩
  ·refine .inr ⟨(.slice b 0 (n + 1) (.var k 0), growIn s b c N k E.z (n * E.z) (E.f (mark j))), growA s s.h E.z (n + 1) (old ++ E.f (mark j)), ?_, ?_, grow old hol hog⟩
   ·have hz1 : Nat.blt 0 E.z = true := by rw [Nat.blt_eq]; exact hz0
    have h01 : Nat.blt 0 1 = true := rfl
    simp only [appTwo, hti, hd, hei, hzv, hsz, avLen, hx1, hy1, g1, isSeq, hzb, Nat.beq_refl, h1, q1, q2, hz1, h01, Bool.and_self, if_true]
   ·have hget : ∀ d, d ≠ b → (growIn s b c N k E.z (n * E.z) (E.f (mark j))).h.get d = s.h.get d := fun d hd => by simp [growIn, PT.get_set, hd]
    have hper : ∀ i, i < max N (n * E.z + (E.f (mark j)).length) → (c.setAll (n * E.z) (E.f (mark j))).get i = (E.f (mark j))[i % E.z]? := by
     intro i hi
     rw [PT.get_setAll]
     by_cases hin : n * E.z ≤ i ∧ i < n * E.z + (E.f (mark j)).length
     ·rw [if_pos hin, mod_at hin.1 (by omega)]
     ·rw [if_neg hin]; exact g3 i (by omega)
    refine hK _ _ col (.inr ⟨b, _, _, _, _, rfl, by simp only [growIn, PT.get_set_same], by rw [hl, Nat.add_mul, Nat.one_mul]; omega, hper, .inl ⟨k, rfl, rfl⟩⟩) (fun d hd => hcol d (by simpa [blkOf] using hd)) ⟨fun y q j' a b' => ⟨?_, b'⟩, fun d o a b' => ⟨?_, b'⟩, by simp [growIn], rfl⟩ ?_
    ·rcases a with a | ⟨b2, cap2, c2, N2, tl2, rfl, a1, a2, a3, a4⟩
     ·exact .inl a
     ·by_cases e : b2 = b
      ·subst e
       rw [g1] at a1
       simp only [Option.some.injEq, AObj.cells.injEq] at a1
       obtain ⟨rfl, rfl, rfl⟩ := a1
       have : j' = j := by
        have q1 := b' b2 (by simp [blkOf])
        have q2 := hcol b2 (by simp [blkOf])
        rw [q1] at q2
        simpa using q2
       subst this
       exact .inr ⟨b2, cap2, _, _, _, rfl, by simp only [growIn, PT.get_set_same], by omega, hper, a4⟩
      ·exact .inr ⟨b2, cap2, c2, N2, tl2, rfl, by rw [hget _ e]; exact a1, a2, a3, a4⟩
    ·have e : d ≠ b := by
      rintro rfl
      have := hcol d (by simp [blkOf])
      rw [this] at b'
      simp at b'
     rw [hget _ e]; exact a
    ·intro d hd
     have hdn : s.nx ≤ d := by simpa [growIn] using hd
     have e : d ≠ b := by
      rintro rfl
      have := hfr d hdn
      rw [g1] at this
      simp at this
     rw [hget _ e]; exact hfr d hdn
  ·refine .inl ⟨_, _, ?_, grow old hol hog⟩
   rw [show appendX D s t t (.slice b 0 n (.exact n)) (.slice m 0 1 (.exact 1)) = appendA D s t t (.slice b 0 n (.exact n)) (.slice m 0 1 (.exact 1)) from rfl]
   have hnb : Nat.ble (n + 1) n = false := by
    rw [← Bool.not_eq_true, Nat.ble_eq]; omega
   simp only [appendA, hti, hd, hei, hzv, isSeq, hsz, hzb, Bool.and_self, if_true, appendB, avLen, hx1, hy1, q1, q2, appendC, hnb]
theorem makeSlice_of {s : St} {t et : TypeId} {ti ei : TyI} {zv : AV} {k k' : IntKind} {n m : Int} (hti : D.ty.get t = some ti) (hd : ti.d = .slice et) (hei : D.ty.get et = some ei) (hzv : ei.zero = some zv) (hzl : zv.cells.length = ei.size)
  (h0 : 0 ≤ n) (h1 : n ≤ m) (h2 : m ≤ 281474976710656) (hb : ei.bytes * m.toNat ≤ pow48) (hfr : Fr s) :
  ∃ s', makeSliceA D s t (.int k n) (.int k' m) = some (.slice s.nx 0 n.toNat (.exact m.toNat), s') ∧ NewO s (cellsO (zeros zv.cells m.toNat)) s.nx s' := by
 have hzb : Nat.beq zv.cells.length ei.size = true := by rw [hzl, Nat.beq_refl]
 have q1 : Nat.ble (ei.bytes * m.toNat) pow48 = true := by rw [Nat.ble_eq]; exact hb
 refine ⟨_, ?_, rfl, rfl, hfr⟩
 simp only [makeSliceA, hti, hd, hei, hzv]
 rw [if_pos (by simp [h0, h1, h2, q1, hzb])]
 rfl
theorem copy_of {E : Enc α} {s : St} {b N : Nat} {cap : ACap} {cs : List AV} {y : AV} {l : List α} {t et : TypeId} {ti ei : TyI} (hti : D.ty.get t = some ti) (hd : ti.d = .slice et) (hei : D.ty.get et = some ei) (hsz : ei.size = E.z)
  (h : Own s b cs) (hcs : cs.length = N * E.z) (hy : Sl E s y l) (hl : l.length ≤ N) (h1 : ∀ a, a ∈ l → ones (E.f a) = true) :
  ∃ s', copyA D s t (.slice b 0 N cap) y = some (.int .i64 l.length, s') ∧ Own s' b (splice cs 0 (l.flatMap E.f)) ∧ Frw [b] s s' ∧ s'.nx = s.nx ∧ (∀ c, c ≠ b → s'.h.get c = s.h.get c) := by
 obtain ⟨y1, y2⟩ := sliceCells_of hy
 have hones : ones (l.flatMap E.f) = true := by
  clear hy y1 y2 hl
  induction l with
  | nil => rfl
  | cons a r ih =>
   have h2 := h1 a (List.mem_cons_self ..)
   have ih := ih fun b hb => h1 b (List.mem_cons_of_mem _ hb)
   rw [List.flatMap_cons]
   generalize E.f a = c at h2
   clear h1
   induction c with
   | nil => exact ih
   | cons u c ihc =>
    cases u <;> first | exact ihc (by simpa [ones] using h2) | simp [ones] at h2
 have hlen : (l.flatMap E.f).length ≤ cs.length := by rw [E.flat_len, hcs]; exact Nat.mul_le_mul_right _ hl
 obtain ⟨s', w1, w2, w3, w4, w5, w6⟩ := h.wrN 0 (l.flatMap E.f) hones (by omega)
 refine ⟨s', ?_, w2, w3, w4, w6⟩
 have hf : firstA s.h E.z l.length y = some (l.flatMap E.f) := by
  have hn := hy.len
  rcases hy with ⟨q1, q2⟩ | ⟨b', o', n', cap', rfl, q1, d, N', tl, g1, g2, g3⟩
  ·rw [slZero_len q1] at hn
   simp only [Option.some.injEq] at hn
   rw [q2, ← hn]
   cases y <;> simp [slZero] at q1 <;> rfl
  ·rw [E.flat_len] at q1 g2
   have hb : Nat.ble (o' + l.length * E.z) N' = true := by rw [Nat.ble_eq]; exact g2
   simp only [firstA, g1, hb, if_true]
   rw [← E.flat_len]; exact g3
 have hw : writeAll s b 0 (l.flatMap E.f) = some s' := w1
 have hx : avLen (.slice b 0 N cap) = some N := rfl
 simp only [copyA, hti, hd, hei, hsz, hx, y2, hf, hw, Nat.min_eq_left hl]
end
end Go.Eng

namespace Go.Eng
noncomputable section
variable {P : Program} {D : Tab} {α : Type}
def avE : Enc AV := ⟨fun v => [v], 1, Nat.one_pos, fun _ => rfl⟩
theorem avE_flat (l : List AV) : l.flatMap avE.f = l := by
 induction l with
 | nil => rfl
 | cons a r ih => rw [List.flatMap_cons, ih]; rfl
theorem Sl.growC {β : Type} {F : Enc β} {E : Enc α} {mark : Nat → α} {col col' : Nat → Option Nat} {s s' : St} {x : AV} {l : List β} (h : Sl F s x l) (hc : ColS col x none) (hG : GrowC E mark col s col' s') : Sl F s' x l ∧ ColS col' x none := by
 rcases h with h | ⟨b, o, n, cap, rfl, h1, c, k, tl, g1, g2, g3⟩
 ·refine ⟨.inl h, fun c hc => ?_⟩
  have := h.1
  cases x <;> simp [slZero, blkOf] at this hc
 ·obtain ⟨q1, q2⟩ := hG.2.1 b _ g1 (hc b (by simp [blkOf]))
  refine ⟨.inr ⟨b, o, n, cap, rfl, h1, c, k, tl, q1, g2, g3⟩, fun d hd => ?_⟩
  have : d = b := by simpa [blkOf] using hd
  rw [this]; exact q2
theorem So.growC {β : Type} {F : Enc β} {E : Enc α} {mark : Nat → α} {col col' : Nat → Option Nat} {s s' : St} {x : AV} {l : List β} (h : So F s x l) (hc : ColS col x none) (hG : GrowC E mark col s col' s') : So F s' x l ∧ ColS col' x none := by
 refine ⟨?_, (h.sl.growC hc hG).2⟩
 rcases h with h | ⟨b, k, n, c, rfl, h1, h2, h3⟩
 ·exact .inl h
 ·exact .inr ⟨b, k, n, c, rfl, h1, (hG.2.1 b _ h2 (hc b (by simp [blkOf]))).1, h3⟩
structure Own2 (E : Enc α) (mark : Nat → α) (ns : Nat → Nat) (N n0 : Nat) (a0 : AV) (L : List AV) (col : Nat → Option Nat) (s : St) (g : AV) (LG : List AV) : Prop where
 fr : Fr s
 nx : n0 ≤ s.nx
 a : Sl avE s a0 L
 ac : ColS col a0 none
 ab : ∀ c, c ∈ blkOf a0 → c < n0
 l : ∀ (j : Nat) (x : AV), L[j]? = some x → Mk E s x (ns j) (mark j) ∧ ColS col x (some j)
 og : So avE s g LG
 gc : ColS col g none
 gb : ∀ c, c ∈ blkOf g → n0 ≤ c
 gl : ∀ (q : Nat) (y : AV), LG[q]? = some y → ∃ n, n ≤ N ∧ Mk E s y n (mark (q / 3)) ∧ ColS col y (some (q / 3))
variable {E : Enc α} {mark : Nat → α} {ns : Nat → Nat} {N n0 : Nat} {a0 g : AV} {L LG : List AV} {col col' : Nat → Option Nat} {s s' s1 : St}
theorem Own2.grow (h : Own2 E mark ns N n0 a0 L col s g LG) (hG : GrowC E mark col s col' s') (hf : Fr s') : Own2 E mark ns N n0 a0 L col' s' g LG := by
 obtain ⟨a1, a2⟩ := h.a.growC h.ac hG
 obtain ⟨g1, g2⟩ := h.og.growC h.gc hG
 exact ⟨hf, Nat.le_trans h.nx hG.2.2.1, a1, a2, h.ab, fun j x hx => hG.1 x _ j (h.l j x hx).1 (h.l j x hx).2, g1, g2, h.gb, fun q y hy => let ⟨n, h1, h2, h3⟩ := h.gl q y hy; ⟨n, h1, hG.1 y n _ h2 h3⟩⟩
theorem Own2.push {t : TypeId} {ti ei : TyI} {et : TypeId} {i m : Nat} {y1 y2 y3 : AV} {k1 k2 k3 : Nat} (h : Own2 E mark ns N n0 a0 L col s g LG) (hti : D.ty.get t = some ti) (hd : ti.d = .slice et) (hei : D.ty.get et = some ei) (hsz : ei.size = 1) (hbt : ei.bytes ≤ 24) {zv : AV} (hzv : ei.zero = some zv) (hzl : zv.cells.length = 1)
  (m1 : Mk E s y1 k1 (mark i)) (m2 : Mk E s y2 k2 (mark i)) (m3 : Mk E s y3 k3 (mark i)) (c1 : ColS col y1 (some i)) (c2 : ColS col y2 (some i)) (c3 : ColS col y3 (some i)) (b1 : k1 ≤ N) (b2 : k2 ≤ N) (b3 : k3 ≤ N)
  (hlen : LG.length = 3 * i) (hi : i < 1000000) (hN : NewO s (cellsO [y1, y2, y3]) m s1) :
  ∃ v s' col', appendX D s1 t t g (.slice m 0 3 (.exact 3)) = some (v, s') ∧ Own2 E mark ns N n0 a0 L col' s' v (LG ++ [y1, y2, y3]) ∧ (LG ++ [y1, y2, y3]).length = 3 * (i + 1) := by
 have hy : Sl avE s1 (.slice m 0 3 (.exact 3)) [y1, y2, y3] := .inr ⟨m, 0, 3, .exact 3, rfl, by rw [avE_flat]; rfl, by rw [avE_flat]; exact hN.own.rd⟩
 have one1 : ∀ {y : AV} {k : Nat}, Mk E s y k (mark i) → ones [y] = true := fun hk => by
  have := hk.len
  rename_i y k
  cases y <;> first | rfl | simp [slLen] at this
 have hb : (LG.length + [y1, y2, y3].length + (LG.length + [y1, y2, y3].length) / 4 + 600) * ei.bytes ≤ pow48 := by
  have : (LG.length + [y1, y2, y3].length + (LG.length + [y1, y2, y3].length) / 4 + 600) * ei.bytes ≤ 10000000 * 24 := Nat.mul_le_mul (by simp only [List.length_cons, List.length_nil]; omega) hbt
  unfold pow48; omega
 obtain ⟨v, s', q1, q2, q3, q4, q5⟩ := (h.og.ext hN.fwd).appendAll hy hti hd hei hsz hzv hzl (fun a ha => by
  simp only [List.mem_cons, List.not_mem_nil, or_false] at ha
  rcases ha with rfl | rfl | rfl
  ·exact one1 m1
  ·exact one1 m2
  ·exact one1 m3) hb (by unfold pow48; simp only [List.length_cons, List.length_nil]; omega) hN.fr
 have hF : Frw (blkOf g) s s' := (hN.fwd.mono (by simp)).trans q3
 have hgt : ∀ c, c ∈ blkOf g → s.h.get c ≠ none := by
  rcases h.og with ⟨rfl, _⟩ | ⟨b, k, n, c, rfl, _, h2, _⟩
  ·simp [blkOf]
  ·intro d hd
   have : d = b := by simpa [blkOf] using hd
   rw [this, h2]; simp
 have hnew : ∀ c, c ∈ blkOf v → s.nx < c := by
  intro c hc
  obtain ⟨rfl, hs1, _⟩ := hN
  rcases q4 c hc with rfl | ⟨e1, e2, _⟩
  ·rw [hs1]; simp [St.new]
  ·exfalso
   rw [e1] at q2
   have hl1 := q2.sl.len
   have hl2 := h.og.sl.len
   rw [hl1] at hl2
   simp at hl2
 have keep : ∀ {y : AV} {k j : Nat}, Mk E s y k (mark j) → ColS col y (some j) → Mk E s' y k (mark j) ∧ ColS (fun c => if c < s.nx then col c else none) y (some j) := fun {y k j} a b => by
  refine ⟨a.beside hF fun c hc hy => ?_, fun c hc => ?_⟩
  ·have := h.gc c hc
   rw [b c hy] at this
   simp at this
  ·have := h.fr.lt (a.there c hc)
   simp only [this, if_true]
   exact b c hc
 have hnx : s.nx ≤ s'.nx := hF.2.1
 refine ⟨v, s', fun c => if c < s.nx then col c else none, q1, ⟨q5.1, Nat.le_trans h.nx hnx, ?_, fun c hc => ?_, h.ab, fun j x hx => keep (h.l j x hx).1 (h.l j x hx).2, q2, fun c hc => ?_, fun c hc => ?_, fun q y hy' => ?_⟩, by simp [hlen]; omega⟩
 ·refine SlR.fwd h.a hF fun c hc => .inr fun b o n cap hx => ?_
  rintro rfl
  have h1 := h.gb b hc
  have h2 := h.ab b (by rw [hx]; simp [blkOf])
  omega
 ·show (if c < s.nx then col c else none) = none
  split
  ·exact h.ac c hc
  ·rfl
 ·have := hnew c hc
  show (if c < s.nx then col c else none) = none
  rw [if_neg (by omega)]
 ·have := hnew c hc
  have := h.nx
  omega
 ·rcases Nat.lt_or_ge q LG.length with hq | hq
  ·rw [List.getElem?_append_left hq] at hy'
   obtain ⟨n, h1, h2, h3⟩ := h.gl q y hy'
   exact ⟨n, h1, keep h2 h3⟩
  ·rw [List.getElem?_append_right hq] at hy'
   have hq3 : q - LG.length < 3 := by
    have := (List.getElem?_eq_some_iff.1 hy').1
    simpa using this
   have hdiv : q / 3 = i := by omega
   rw [hdiv]
   obtain ⟨d, hd'⟩ : ∃ d, d = q - LG.length := ⟨_, rfl⟩
   rw [← hd'] at hy' hq3
   match d, hq3 with
   | 0, _ => simp at hy'; subst hy'; exact ⟨k1, b1, keep m1 c1⟩
   | 1, _ => simp at hy'; subst hy'; exact ⟨k2, b2, keep m2 c2⟩
   | 2, _ => simp at hy'; subst hy'; exact ⟨k3, b3, keep m3 c3⟩
   | d + 3, hq3 => omega
structure Own1 (E : Enc α) (mark : Nat → α) (ns kk : Nat → Nat) (n0 : Nat) (a0 : AV) (L : List AV) (s : St) : Prop where
 fr : Fr s
 nx : n0 ≤ s.nx
 a : Sl avE s a0 L
 ab : ∀ c, c ∈ blkOf a0 → c < n0
 l : ∀ (j : Nat) (x : AV), L[j]? = some x → MkP E s x (ns j) (kk j) (mark j)
 d : ∀ (i j : Nat) (x y : AV), L[i]? = some x → L[j]? = some y → i ≠ j → ∀ c, c ∈ blkOf x → c ∉ blkOf y
 da : ∀ (i : Nat) (x : AV), L[i]? = some x → ∀ c, c ∈ blkOf x → c ∉ blkOf a0
theorem Own1.wr {kk : Nat → Nat} (h : Own1 E mark ns kk n0 a0 L s) {i b : Nat} {x : AV} {k : Nat} (hx : L[i]? = some x) (hb : blkOf x = [b]) (hm : MkP E s' x (ns i) k (mark i)) (hf : Frw [b] s s') (hn : s'.nx = s.nx) (hg : ∀ c, c ≠ b → s'.h.get c = s.h.get c) : Own1 E mark ns (fun j => if j = i then k else kk j) n0 a0 L s' := by
 have hbx : s.h.get b ≠ none := (h.l i x hx).there b (by rw [hb]; simp)
 refine ⟨h.fr.wr hbx hn hg, by rw [hn]; exact h.nx, SlR.fwd h.a hf fun c hc => .inr fun b' o n cap hx' => ?_, h.ab, fun j y hy => ?_, h.d, h.da⟩
 ·have hc' : c = b := by simpa using hc
  subst hc'
  rintro rfl
  exact h.da i x hx b' (by rw [hb]; simp) (by rw [hx']; simp [blkOf])
 ·by_cases e : j = i
  ·rw [if_pos e]
   subst e
   rw [hx] at hy
   simp at hy
   subst hy
   exact hm
  ·rw [if_neg e]
   refine (h.l j y hy).beside hf fun c hc hcy => ?_
   have hc' : c = b := by simpa using hc
   subst hc'
   exact h.d j i y x hy hx e c hcy (by rw [hb]; simp)
theorem Own1.done (h : Own1 E mark ns ns n0 a0 L s) (N : Nat) : ∃ col, Own2 E mark ns N n0 a0 L col s .nilslice [] := by
 classical
 let col : Nat → Option Nat := fun c => if hc : ∃ j x, L[j]? = some x ∧ c ∈ blkOf x then some (Classical.choose hc) else none
 have hcol : ∀ (j : Nat) (x : AV), L[j]? = some x → ∀ c, c ∈ blkOf x → col c = some j := by
  intro j x hx c hc
  have hex : ∃ j x, L[j]? = some x ∧ c ∈ blkOf x := ⟨j, x, hx, hc⟩
  simp only [col, dif_pos hex]
  obtain ⟨x', h1, h2⟩ := Classical.choose_spec hex
  congr 1
  rcases Nat.decEq (Classical.choose hex) j with hne | he
  ·exact absurd hc (h.d _ _ x' x h1 hx hne c h2)
  ·exact he
 refine ⟨col, h.fr, h.nx, h.a, fun c hc => ?_, h.ab, fun j x hx => ⟨(h.l j x hx).mk, hcol j x hx⟩, .nil _ _, fun c hc => (List.not_mem_nil (show c ∈ ([] : List Nat) from hc)).elim, fun c hc => (List.not_mem_nil (show c ∈ ([] : List Nat) from hc)).elim, fun q y hy => by simp at hy⟩
 simp only [col]
 rw [dif_neg]
 rintro ⟨j, x, hx, hc'⟩
 exact h.da j x hx c hc' hc
end
end Go.Eng

namespace Go.Eng
noncomputable section
variable {P : Program} {D : Tab} {α : Type}
def hpO (h : PT AObj) : List Nat → PT AObj
 | [] => .nil
 | b :: r => (match h.get b with | some o => (hpO h r).set b o | none => hpO h r)
theorem hpO_get {h : PT AObj} {b : Nat} : ∀ {l : List Nat}, (hpO h l).get b = if b ∈ l then h.get b else none
 | [] => by simp [hpO]
 | c :: r => by
  have ih := hpO_get (h := h) (b := b) (l := r)
  simp only [hpO]
  cases hc : h.get c with
  | none =>
   simp only [ih, List.mem_cons]
   by_cases e : b = c
   ·subst e; simp [hc]
   ·simp [e]
  | some o =>
   simp only [PT.get_set, ih, List.mem_cons]
   by_cases e : b = c
   ·subst e; simp [hc]
   ·simp [e]
theorem Sl.alone {E : Enc α} {s : St} {x : AV} {l : List α} {fp : List Nat} (h : Sl E s x l) (hx : ∀ c, c ∈ blkOf x → c ∈ fp) : Sl E { s with h := hpO s.h fp } x l := by
 rcases h with h | ⟨b, o, n, cap, rfl, h1, c, N, tl, g1, g2, g3⟩
 ·exact .inl h
 ·exact .inr ⟨b, o, n, cap, rfl, h1, c, N, tl, by
   show (hpO s.h fp).get b = _
   rw [hpO_get, if_pos (hx b (by simp [blkOf]))]; exact g1, g2, g3⟩
end
end Go.Eng

namespace Go.Eng
noncomputable section
variable {P : Program} {D : Tab} {α : Type}
def CutS (x : AV) : Prop := ∃ b o n cap, x = .slice b o n cap ∧ 0 < n ∧ ∀ c, cap = .exact c → n ≤ c
theorem ArgS.cut {x : AV} (h : ArgS x) {n : Nat} (hl : slLen x = some n) (hn : 0 < n) : CutS x := by
 rcases h with rfl | rfl | ⟨b, o, m, c, rfl, h0, hc⟩
 ·simp [slLen] at hl; omega
 ·simp [slLen] at hl; omega
 ·exact ⟨b, o, m, _, rfl, h0, fun c' e => by cases e; exact hc⟩
theorem So.cut {E : Enc α} {s : St} {x : AV} {l : List α} (h : So E s x l) (hl : l ≠ []) : CutS x := by
 have hlen := h.sl.len
 rcases h with ⟨rfl, _⟩ | ⟨b, k, n, c, rfl, h1, h2, h3⟩
 ·simp only [slLen, Option.some.injEq] at hlen
  exact absurd (List.length_eq_zero_iff.1 hlen.symm) hl
 ·have hn : n = l.length := by simpa [slLen] using hlen
  refine ⟨b, 0, n, _, rfl, ?_, fun c e => by cases e⟩
  rw [hn]; exact List.length_pos_iff.2 hl
theorem Sl.cut {E : Enc α} {s : St} {x : AV} {l : List α} (h : Sl E s x l) (hc : CutS x) {k : Nat} (h0 : 0 < k) (hk : k < l.length) :
  (∃ y, sliceV E.z x none (some (.int .i64 (k : Int))) none = some y ∧ Sl E s y (l.take k) ∧ CutS y) ∧ ∃ y, sliceV E.z x (some (.int .i64 (k : Int))) none none = some y ∧ Sl E s y (l.drop k) ∧ CutS y := by
 have hlen := h.len
 obtain ⟨b, o, n, cap, rfl, hn0, hcap⟩ := hc
 have hn : n = l.length := by simpa [slLen] using hlen
 rcases h with ⟨h1, _⟩ | ⟨b', o', n', c', h1, h2, d, N, tl, g1, g2, g3⟩
 ·simp [slZero] at h1
 simp only [AV.slice.injEq] at h1
 obtain ⟨rfl, rfl, rfl, rfl⟩ := h1
 have hz : (l.flatMap E.f).length = l.length * E.z := E.flat_len l
 have hm : k * E.z + (l.length - k) * E.z = l.length * E.z := by rw [← Nat.add_mul]; congr 1; omega
 have htl : ((l.take k).flatMap E.f).length = k * E.z := by rw [E.flat_len, List.length_take, Nat.min_eq_left (by omega)]
 have hdl : ((l.drop k).flatMap E.f).length = (l.length - k) * E.z := by rw [E.flat_len, List.length_drop]
 have rt : ∀ cap', Sl E s (.slice b o k cap') (l.take k) := fun cap' => .inr ⟨b, o, k, _, rfl, htl, d, N, tl, g1, by rw [htl]; omega, by
  rw [htl, E.flat_take (by omega)]
  have := getAll_part g3 0 (k * E.z) (by rw [hz]; omega)
  simpa using this⟩
 have rd : ∀ cap', Sl E s (.slice b (o + k * E.z) (n - k) cap') (l.drop k) := fun cap' => .inr ⟨b, _, n - k, _, rfl, by rw [hdl, hn], d, N, tl, g1, by rw [hdl]; omega, by
  rw [hdl, E.flat_drop (by omega)]
  have := getAll_part g3 (k * E.z) ((l.length - k) * E.z) (by rw [hz]; omega)
  rw [List.take_of_length_le (by rw [List.length_drop, hz]; omega)] at this
  exact this⟩
 have e1 : sliceV E.z (.slice b o n cap) none (some (.int .i64 (k : Int))) none = (match cap with | .exact c => sliceEx E.z b o c 0 k c | .var q t => sliceVar E.z b o n q t 0 k) := by
  cases cap <;> simp [sliceV, optInt, sliceSl]
 have e2 : sliceV E.z (.slice b o n cap) (some (.int .i64 (k : Int))) none none = (match cap with | .exact c => sliceEx E.z b o c k n c | .var q t => sliceVar E.z b o n q t k n) := by
  cases cap <;> simp [sliceV, optInt, sliceSl]
 rw [e1, e2]
 cases cap with
 | exact c =>
  have hnc := hcap c rfl
  have b1 : Nat.ble 0 k = true := by rw [Nat.ble_eq]; omega
  have b2 : Nat.ble k c = true := by rw [Nat.ble_eq]; omega
  have b3 : Nat.ble c c = true := by rw [Nat.ble_eq]; omega
  have b4 : Nat.ble k n = true := by rw [Nat.ble_eq]; omega
  have b5 : Nat.ble n c = true := by rw [Nat.ble_eq]; omega
  have b6 : Nat.beq c 0 = false := by
   cases c with
   | zero => omega
   | succ c => rfl
  have b7 : Nat.beq c k = false := by
   cases hb : Nat.beq c k with
   | false => rfl
   | true => have := Nat.eq_of_beq_eq_true hb; omega
  refine ⟨⟨.slice b o k (.exact c), ?_, rt _, b, o, k, _, rfl, h0, fun c' e => by cases e; omega⟩, ⟨.slice b (o + k * E.z) (n - k) (.exact (c - k)), ?_, rd _, b, _, n - k, _, rfl, by omega, fun c' e => by cases e; omega⟩⟩
  ·simp only [sliceEx, b1, b2, b3, b6, Bool.and_self, if_true]
   simp
  ·simp only [sliceEx, b4, b5, b3, b7, Bool.and_self, if_true]
 | var q t =>
  have b1 : Nat.ble 0 k = true := by rw [Nat.ble_eq]; omega
  have b2 : Nat.ble k n = true := by rw [Nat.ble_eq]; omega
  have b3 : Nat.ble n n = true := by rw [Nat.ble_eq]; omega
  have b4 : Nat.blt 0 n = true := by rw [Nat.blt_eq]; omega
  have b5 : Nat.blt k n = true := by rw [Nat.blt_eq]; omega
  refine ⟨⟨.slice b o k (.var q t), ?_, rt _, b, o, k, _, rfl, h0, fun c' e => by cases e⟩, ⟨.slice b (o + k * E.z) (n - k) (.var q (t + k)), ?_, rd _, b, _, n - k, _, rfl, by omega, fun c' e => by cases e⟩⟩
  ·simp only [sliceVar, b1, b2, b4, Bool.and_self, if_true]
   simp
  ·simp only [sliceVar, b2, b3, b5, Bool.and_self, if_true]
end
end Go.Eng

