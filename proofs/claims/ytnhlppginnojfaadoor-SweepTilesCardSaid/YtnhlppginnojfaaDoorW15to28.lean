/-
  Sorting: the library's contract (elements of k cells), as a call of states.
  Maps, as lists of keys and values.
  Texts in order; calls whose end is said anew.
  Slices of one's own: many at once, a part written anew, parts of them.
  Parts of a slice of one's own, and a part of one element written anew.
  Sorting in place, in plain text: places, exchanges, parts that are put in another order.
  Parts of a slice are written at once; what is cleared; neighbours that are alike.
  Parts of slices that have been handed in.
  Loops over functions: what a function hands on, one by one.
  Many elements put to a slice that has none and no room.
  Lists that are marked, and grown while they live on; make with a number that is not known; copies.
-/
import Derived.Test.YtnhlppginnojfaaDoorW13to14
import Derived.Test.YtnhlppginnojfaaDoorEng34
import Derived.Shelf.SlSortCmp.NoneTotal
import Derived.Test.YtnhlppginnojfaaDoorW8to12
import Derived.Test.YtnhlppginnojfaaDoorW5to7
set_option linter.unusedVariables false
set_option linter.unusedSimpArgs false
namespace Go.Eng
open Go.Proofs
noncomputable section
variable {P : Program} {D : Tab}
theorem Kept.grown {w w' : World} (h : Kept w w') : ∃ q os', w' = Sort.grow (w.drewN q) os' := by
 refine ⟨w'.drawn - w.drawn, w'.heap.extract w.heap.size w'.heap.size, ?_⟩
 have hh : w'.heap = w.heap ++ w'.heap.extract w.heap.size w'.heap.size := by
  apply Array.ext_getElem?
  intro i
  by_cases hi : i < w.heap.size
  ·rw [h.keep i hi, Array.getElem?_append_left hi]
  ·rw [Array.getElem?_append_right (by omega), Array.getElem?_extract]
   have := h.size
   split
   ·congr 1; omega
   ·rw [Array.getElem?_eq_none_iff]; omega
 have hd := h.dr
 have h1 := h.os
 have h2 := h.out
 have h3 := h.tape
 obtain ⟨hp, tp, dr, o, out⟩ := w
 obtain ⟨hp', tp', dr', o', out'⟩ := w'
 simp only at *
 subst h1 h2 h3
 unfold Sort.grow World.drewN
 simp only [World.mk.injEq, and_true, true_and]
 exact ⟨hh, by omega⟩
theorem Kept.grow (w : World) (q : Nat) (os : Array Obj) : Kept w (Sort.grow (w.drewN q) os) :=
 ⟨rfl, rfl, by simp [Sort.grow, World.drewN], fun r hr => by simp [Sort.grow, World.drewN, Array.getElem?_append_left hr], rfl, by simp [Sort.grow, World.drewN]⟩
theorem Rel.kept {φ : Phi} {s : St} {w w' : World} (h : Rel φ s w) (k : Kept w w') : Rel φ s w' :=
 ⟨fun b o hb => by
  rcases h.obj b o hb with hv | ⟨r, sh, ro, h1, h2, h3⟩
  ·exact .inl hv
  ·have := (Array.getElem?_eq_some_iff.1 h2).1
   exact .inr ⟨r, sh, ro, h1, by rw [k.keep r this]; exact h2, h3⟩, h.inj, h.fresh, h.freshc, h.glob, h.gnx, h.facts⟩
theorem Stp.kept {w w' : World} (φ : Phi) (s : St) (k : Kept w w') : Stp φ s w φ s w' :=
 ⟨Phi.le.rfl' φ, fun b _ sh h h' => .inr ⟨b, sh, h, h'⟩, fun b _ sh h h' => .inr ⟨b, sh, h, h'⟩, fun r hr _ => k.keep r hr, k.size, k.os, k.out, k.tape, Nat.le_refl _, Nat.le_refl _, fun _ _ => rfl, fun r arr e fz hx => by
  have := (Array.getElem?_eq_some_iff.1 hx).1
  exact ⟨arr, fz, by rw [k.keep r this]; exact hx, rfl⟩, fun _ => k.dr⟩
def Env.q (e : Env) : Env := { e with fp := fun _ _ _ _ _ => false }
def Phi.q (φ : Phi) : Phi := { φ with env := φ.env.q }
mutual
theorem Tm.ev_q (e : Env) : ∀ t : Tm, t.ev e.q = t.ev e
 | .c _ => rfl
 | .v _ => rfl
 | .op o k a b => by simp only [Tm.ev, Tm.ev_q e a, Tm.ev_q e b]
 | .cv k a => by simp only [Tm.ev, Tm.ev_q e a]
 | .sel A t z o => by simp only [Tm.ev, ATm.ev_q e A, Tm.ev_q e t]
 | .p3 p a b c => by simp only [Tm.ev, Tm.ev_q e a, Tm.ev_q e b, Tm.ev_q e c]
 | .fn f A n B m => by simp only [Tm.ev, ATm.ev_q e A, Tm.ev_q e n, ATm.ev_q e B, Tm.ev_q e m]; rfl
theorem ATm.ev_q (e : Env) : ∀ A : ATm, A.ev e.q = A.ev e
 | .v _ => rfl
 | .k _ => rfl
 | .upd A t z o x => by simp only [ATm.ev, ATm.ev_q e A, Tm.ev_q e t, Tm.ev_q e x]
 | .fn f A n B m => by simp only [ATm.ev, ATm.ev_q e A, Tm.ev_q e n, ATm.ev_q e B, Tm.ev_q e m]; rfl
end
theorem CR.q {p : Phi} {a : ACap} {c : Nat} (h : CR p a c) : CR p.q a c :=
 match h with
 | .exact n => .exact n
 | .var h' => .var h'
mutual
theorem VR.q {p : Phi} : ∀ {a : AV} {v : Value}, VR p a v → VR p.q a v
 | _, _, .bool b => .bool b
 | _, _, .int k n => .int k n
 | _, _, .str s => .str s
 | _, _, .nilptr => .nilptr
 | _, _, .ptr hb o => @VR.ptr p.q _ _ _ hb o
 | _, _, .nilslice => .nilslice
 | _, _, .slice hb hc o n hn => @VR.slice p.q _ _ _ _ _ hb hc.q o n hn
 | _, _, .slice0 z a c hz => .slice0 z a c hz
 | _, _, .sym hs hp => @VR.sym p.q _ _ hs hp
 | _, _, .tm k t ht => .tm k t ((Tm.ev_q p.env t).trans ht)
 | _, _, .ssl0 b cap hn => .ssl0 b cap ((Tm.ev_q p.env _).trans hn)
 | _, _, .ssl hb hn hc hle => @VR.ssl p.q _ _ _ _ _ _ _ hb ((Tm.ev_q p.env _).trans hn) hc.q hle
 | _, _, .sptr hb ht z o => @VR.sptr p.q _ _ _ _ _ hb ((Tm.ev_q p.env _).trans ht) z o
 | _, _, .nilmap => .nilmap
 | _, _, .map hb => @VR.map p.q _ _ _ hb
 | _, _, .yld hb => @VR.yld p.q _ _ _ hb
 | _, _, .func f hx hy => .func f (VRs.q hx) (VRs.q hy)
 | _, _, .nilFunc => .nilFunc
 | _, _, .iface t hv => .iface t (VR.q hv)
 | _, _, .nilIface => .nilIface
 | _, _, .agg hx => .agg (VRs.q hx)
 | _, _, .tuple hx => .tuple (VRs.q hx)
theorem VRs.q {p : Phi} : ∀ {a : List AV} {v : List Value}, VRs p a v → VRs p.q a v
 | _, _, .nil => .nil
 | _, _, .cons hv hs => .cons (VR.q hv) (VRs.q hs)
end
theorem CellsR.q {p : Phi} {sh : Nat} {c : PT AV} {n : Nat} {arr : Array Value} (hc : CellsR p sh c n arr) : CellsR p.q sh c n arr :=
 ⟨hc.1, fun i a hi ha => let ⟨v, h2, h3⟩ := hc.2 i a hi ha; ⟨v, h2, h3.q⟩⟩
theorem Phi.q_tight (φ : Phi) : ¬ Loose φ.q.env := fun h => by
 have h : false = true := h
 simp at h
def PT.fmap {α β : Type} (f : α → Option β) : PT α → PT β
 | .nil => .nil
 | .nd l v r => .nd (fmap f l) (v.bind f) (fmap f r)
theorem PT.get_fmap {α β : Type} (f : α → Option β) : ∀ (t : PT α) (k : Nat), (PT.fmap f t).get k = (t.get k).bind f
 | .nil, k => by simp [PT.fmap]
 | .nd l v r, 0 => by simp [PT.fmap]
 | .nd l v r, k + 1 => by
  simp only [PT.fmap, PT.get_succ]
  split
  ·exact PT.get_fmap f l _
  ·exact PT.get_fmap f r _
def rom1 : AObj → Option AObj
 | .cells c n _ => some (.cells c n (some (0, 0)))
 | _ => none
def romS (s : St) (b : Nat) : St := { s with h := PT.fmap rom1 (s.h.del b), fs := [] }
theorem romS_get {s : St} {b c : Nat} {o : AObj} (h : (romS s b).h.get c = some o) : c ≠ b ∧ ∃ d n tl, s.h.get c = some (.cells d n tl) ∧ o = .cells d n (some (0, 0)) := by
 simp only [romS, PT.get_fmap, PT.get_del] at h
 by_cases e : c = b
 ·rw [if_pos e] at h; simp at h
 ·rw [if_neg e] at h
  refine ⟨e, ?_⟩
  cases hx : s.h.get c with
  | none => rw [hx] at h; simp at h
  | some ob =>
   rw [hx] at h
   cases ob <;> simp [rom1] at h
   exact ⟨_, _, _, rfl, h.symm⟩
theorem romS_rd {s : St} {b c o : Nat} {cs : List AV} (hc : c ≠ b) (h : Rd s c o cs) : Rd (romS s b) c o cs := by
 obtain ⟨d, n, tl, h1, h2, h3⟩ := h
 exact ⟨d, n, _, by simp only [romS, PT.get_fmap, PT.get_del]; rw [if_neg hc, h1]; rfl, h2, h3⟩
theorem romS_own (s : St) (b c : Nat) : ownB (romS s b).h c = false := by
 unfold ownB
 split
 ·rfl
 ·rename_i o hno ho
  obtain ⟨_, d, n, tl, _, rfl⟩ := romS_get ho
  exact absurd rfl (hno _ _ _)
 ·rfl
theorem Rel.rom {φ : Phi} {s : St} {w W : World} (h : Rel φ s w) {b r sh : Nat} (hb : (s.h.get b).isSome = true) (hr : φ.blk b = some (r, sh)) (hW : ∀ r', r' < w.heap.size → r' ≠ r → W.heap[r']? = w.heap[r']?) : Rel φ.q (romS s b) W where
 obj := fun c o hc => by
  obtain ⟨hne, d, n, tl, h1, rfl⟩ := romS_get hc
  obtain ⟨r', sh', arr, e, fz, g1, g2, g3, _⟩ := h.cells h1
  refine .inr ⟨r', sh', .cells arr e fz, g1, ?_, .rom g3.q⟩
  have hlt := (Array.getElem?_eq_some_iff.1 g2).1
  rw [hW r' hlt ?_]
  ·exact g2
  ·rintro rfl
   exact hne (h.inj c b r' sh' sh (by simp [h1]) hb g1 hr)
 inj := fun c c' r' s1 s2 hc hc' e e' => by
  obtain ⟨o, ho⟩ := Option.isSome_iff_exists.1 hc
  obtain ⟨o', ho'⟩ := Option.isSome_iff_exists.1 hc'
  obtain ⟨_, _, _, _, g, _⟩ := romS_get ho
  obtain ⟨_, _, _, _, g', _⟩ := romS_get ho'
  exact h.inj c c' r' s1 s2 (by simp [g]) (by simp [g']) e e'
 fresh := h.fresh
 freshc := h.freshc
 glob := h.glob
 gnx := h.gnx
 facts := fun f hf => by simp [romS] at hf
theorem CallsA.reads {g : FuncId} {args : List AV} {s : St} {x : AV} {u : Value} (h : CallsA P g args s fun v _ => v = x) (hx : ∀ φ v, VR φ x v → v = u) (ho : ∀ b, ownB s.h b = false) {φ : Phi} {vals : List Value} {w : World} (hr : Rel φ s w) (hq : ¬ Loose φ.env) (hv : VRs φ args vals) :
  Calls P g vals.toArray w fun e w' => e = .returned u ∧ ∃ q os', w' = Sort.grow (w.drewN q) os' := by
 intro cs
 obtain ⟨v, s', rfl, φ', u', w', fr, q1, q2, q3, q4, q5, q6⟩ := h φ vals w cs hr hv
 have := hx φ' u' q3
 subst this
 exact ⟨.returned u', w', fr, ⟨rfl, Kept.grown ⟨q1.os, q1.out, q1.size, fun r hr => q1.keep r hr fun b sh hb => by rw [ho] at hb; simp at hb, q1.tape, q1.dr hq⟩⟩, q4, q5, q6⟩
theorem swo_el {β α : Type} {cf : β → β → Int} (f : α → β) (hO : Sort.SWO (ltOf cf)) : Sort.SWO (ltOf fun x y : α => cf (f x) (f y)) :=
 ⟨fun x => hO.irrefl (f x), fun x y z => hO.trans (f x) (f y) (f z), fun x y z => hO.ntrans (f x) (f y) (f z)⟩
theorem list_choose {α β : Type} {R : α → β → Prop} : ∀ {l : List α}, (∀ x, x ∈ l → ∃ y, R x y) → ∃ l' : List β, l'.length = l.length ∧ ∀ i (h : i < l.length) (h' : i < l'.length), R l[i] l'[i]
 | [], _ => ⟨[], rfl, fun i h => by simp at h⟩
 | x :: r, h => by
  obtain ⟨y, hy⟩ := h x (List.mem_cons_self ..)
  obtain ⟨l', h1, h2⟩ := list_choose (l := r) fun z hz => h z (List.mem_cons_of_mem _ hz)
  refine ⟨y :: l', by simp [h1], fun i hi hi' => ?_⟩
  cases i with
  | zero => exact hy
  | succ i => exact h2 i (by simpa using hi) (by simpa using hi')
theorem CallsA.sort0 {ρ : Shelf.Ren} (L : SlLaysF0.n6 P ρ) {x f : AV} {s : St} (hx : slLen x = some 0) : CallsA P (ρ.f 6) [x, f] s fun v s' => v = .tuple [] ∧ s' = s := by
 intro φ vals w cs hr hv
 cases hv with
 | cons hv0 hv =>
 cases hv with
 | cons hv1 hv =>
 cases hv
 rename_i vx fv
 have : ∃ p cap, vx = .slice p 0 cap := by
  cases hv0 with
  | nilslice => exact ⟨_, _, rfl⟩
  | slice h hc o n hn =>
   have : n = 0 := by simpa [slLen] using hx
   subst this
   exact ⟨_, _, rfl⟩
  | slice0 z a c hz => exact ⟨_, _, rfl⟩
  | _ => simp [slLen] at hx
 obtain ⟨p, cap, rfl⟩ := this
 obtain ⟨e, w', fr, ⟨rfl, rfl⟩, g1, g2, g3⟩ := AnyF.slices_SortFunc_none L p cap fv w cs
 exact ⟨.tuple [], s, ⟨rfl, rfl⟩, φ, .tuple #[], _, fr, Stp.refl _ _ _, hr, .tuple .nil, g1, g2, g3⟩
end
end Go.Eng

namespace Go.Eng
noncomputable section
set_option linter.unusedSectionVars false
variable {P : Program} {D : Tab} {κ : Type} [DecidableEq κ]
structure KeyE (D : Tab) (kt : TypeId) (κ : Type) [DecidableEq κ] where
 f : κ → AV
 ok : ∀ a, keyOk D kt (f a) = true
 eq : ∀ h a b, aeq D h depth kt (f a) (f b) = some (decide (a = b))
 same : ∀ a, geq (f a) (f a) = true
abbrev Ent (κ : Type) := List (κ × AV × Nat)
def encE (f : κ → AV) (es : Ent κ) : List (AV × AV × Nat) := es.map fun e => (f e.1, e.2.1, e.2.2)
def mget : List (κ × AV) → κ → Option AV
 | [], _ => none
 | (a, v) :: r, k => if k = a then some v else mget r k
def mset : List (κ × AV) → κ → AV → List (κ × AV)
 | [], k, v => [(k, v)]
 | (a, w) :: r, k, v => if k = a then (a, v) :: r else (a, w) :: mset r k v
theorem mget_mset (m : List (κ × AV)) (k : κ) (v : AV) (j : κ) : mget (mset m k v) j = if j = k then some v else mget m j := by
 induction m with
 | nil =>
  simp only [mset, mget]
 | cons p r ih =>
  obtain ⟨a, w⟩ := p
  simp only [mset]
  by_cases e : k = a
  ·subst e
   simp only [if_true, mget]
   by_cases e : j = k <;> simp [e]
  ·rw [if_neg e]
   simp only [mget]
   by_cases e1 : j = a
   ·subst e1
    rw [if_pos rfl, if_neg (Ne.symm e), if_pos rfl]
   ·rw [if_neg e1, if_neg e1, ih]
theorem mset_keys (m : List (κ × AV)) (k : κ) (v : AV) : (mset m k v).map (·.1) = if k ∈ m.map (·.1) then m.map (·.1) else m.map (·.1) ++ [k] := by
 induction m with
 | nil => simp [mset]
 | cons p r ih =>
  obtain ⟨a, w⟩ := p
  simp only [mset]
  by_cases e : k = a
  ·subst e; simp
  ·rw [if_neg e]
   simp only [List.map_cons, ih, List.mem_cons, e, false_or]
   split <;> simp
theorem mset_nodup {m : List (κ × AV)} (h : (m.map (·.1)).Nodup) (k : κ) (v : AV) : ((mset m k v).map (·.1)).Nodup := by
 rw [mset_keys]
 split
 ·exact h
 ·rename_i hk
  rw [List.nodup_append]
  exact ⟨h, by simp, fun a ha b hb => by simp at hb; subst hb; rintro rfl; exact hk ha⟩
def kv (es : Ent κ) : List (κ × AV) := es.map fun e => (e.1, e.2.1)
def findM : Ent κ → κ → Nat → Option (Nat × AV)
 | [], _, _ => none
 | (a, v, _) :: r, k, i => if k = a then some (i, v) else findM r k (i + 1)
theorem findK_enc {kt : TypeId} (K : KeyE D kt κ) (h : PT AObj) (k : κ) : ∀ (es : Ent κ) (i : Nat), findK D h kt (K.f k) (encE K.f es) i = some (findM es k i)
 | [], i => rfl
 | (a, v, t) :: r, i => by
  simp only [encE, List.map_cons, findK, K.eq, findM]
  by_cases e : k = a
  ·subst e; simp [K.same]
  ·simp only [e, decide_false, if_false]
   exact findK_enc K h k r (i + 1)
theorem findM_get : ∀ (es : Ent κ) (k : κ) (i : Nat), (findM es k i).map (·.2) = mget (kv es) k
 | [], _, _ => rfl
 | (a, v, t) :: r, k, i => by
  simp only [findM, kv, List.map_cons, mget]
  by_cases e : k = a
  ·simp [e]
  ·simp only [e, if_false]; exact findM_get r k (i + 1)
theorem findM_set : ∀ (es : Ent κ) (k : κ) (i j : Nat) (w v : AV), findM es k i = some (j, w) → i ≤ j ∧ ∃ es' : Ent κ, ∀ f : κ → AV, setVal (encE f es) (j - i) v = encE f es' ∧ kv es' = mset (kv es) k v ∧ es'.map (·.2.2) = es.map (·.2.2)
 | [], _, _, _, _, _, h => by simp [findM] at h
 | (a, x, t) :: r, k, i, j, w, v, h => by
  simp only [findM] at h
  by_cases e : k = a
  ·rw [if_pos e] at h
   simp only [Option.some.injEq, Prod.mk.injEq] at h
   obtain ⟨rfl, rfl⟩ := h
   refine ⟨Nat.le_refl _, (a, v, t) :: r, fun f => ⟨?_, ?_, rfl⟩⟩
   ·rw [Nat.sub_self]; rfl
   ·simp [kv, mset, e]
  ·rw [if_neg e] at h
   obtain ⟨h1, es', h2⟩ := findM_set r k (i + 1) j w v h
   refine ⟨by omega, (a, x, t) :: es', fun f => ⟨?_, ?_, ?_⟩⟩
   ·obtain ⟨m, hm⟩ : ∃ m, j - i = m + 1 := ⟨j - i - 1, by omega⟩
    have hm' : j - (i + 1) = m := by omega
    have := (h2 f).1
    rw [hm'] at this
    rw [hm]
    simp only [encE, List.map_cons, setVal]
    simp only [encE] at this
    rw [this]
   ·have := (h2 f).2.1
    simp only [kv, List.map_cons, mset] at this ⊢
    rw [if_neg e, this]
   ·have := (h2 f).2.2
    simp only [List.map_cons, this]
theorem mset_none {m : List (κ × AV)} {k : κ} (h : mget m k = none) (v : AV) : mset m k v = m ++ [(k, v)] := by
 induction m with
 | nil => rfl
 | cons p r ih =>
  obtain ⟨a, w⟩ := p
  simp only [mget] at h
  by_cases e : k = a
  ·simp [e] at h
  ·rw [if_neg e] at h
   simp only [mset, if_neg e, ih h, List.cons_append]
def MapS (f : κ → AV) (s : St) (b : Nat) (m : List (κ × AV)) : Prop :=
 ∃ (es : Ent κ) (clock : Nat), s.h.get b = some (.map (encE f es) clock) ∧ kv es = m ∧ (m.map (·.1)).Nodup ∧ (es.map (·.2.2)).Nodup ∧ ∀ t, t ∈ es.map (·.2.2) → t < clock
theorem MapS.fwd {f : κ → AV} {M : List Nat} {s s' : St} {b : Nat} {m : List (κ × AV)} (h : MapS f s b m) (hf : Frw M s s') (hb : b ∉ M) : MapS f s' b m := by
 obtain ⟨es, clock, h1, h2⟩ := h
 exact ⟨es, clock, hf.1 b _ hb h1, h2⟩
theorem MapS.ext {f : κ → AV} {s s' : St} {b : Nat} {m : List (κ × AV)} (h : MapS f s b m) (hf : Frw [] s s') : MapS f s' b m := h.fwd hf (by simp)
theorem MapS.there {f : κ → AV} {s : St} {b : Nat} {m : List (κ × AV)} (h : MapS f s b m) : s.h.get b ≠ none := by
 obtain ⟨es, clock, h1, _⟩ := h
 rw [h1]; simp
theorem MapS.new {f : κ → AV} {s s' : St} {b : Nat} (h : NewO s mapO b s') : MapS f s' b [] :=
 ⟨[], 0, h.get, rfl, by simp, by simp, by simp⟩
theorem MapS.lookup {t kt et : TypeId} {ti ei : TyI} (K : KeyE D kt κ) {s : St} {b : Nat} {m : List (κ × AV)} (h : MapS K.f s b m) (ht : D.ty.get t = some ti) (hd : ti.d = .map kt et) (he : D.ty.get et = some ei) {z : AV} (hz : ei.zero = some z) (k : κ) :
  lookupA D s t (.map b) (K.f k) false = some ((mget m k).getD z) ∧ lookupA D s t (.map b) (K.f k) true = some (.tuple [(mget m k).getD z, .bool (mget m k).isSome]) := by
 obtain ⟨es, clock, h1, rfl, _⟩ := h
 obtain ⟨d, sz, by', ze, he'⟩ := ti
 simp only at hd
 subst hd
 have hf := findM_get es k 0
 simp only [lookupA, ht, K.ok, Bool.not_true, Bool.false_eq_true, if_false, entriesA, h1, findK_enc]
 cases hx : findM es k 0 with
 | none =>
  rw [hx] at hf
  simp only [Option.map_none] at hf
  simp [← hf, he, hz]
 | some p =>
  obtain ⟨i, v⟩ := p
  rw [hx] at hf
  simp only [Option.map_some] at hf
  simp [← hf]
def MapW (s : St) (b : Nat) (s' : St) : Prop := Frw [b] s s' ∧ s'.nx = s.nx ∧ s'.nc = s.nc ∧ ∀ c, c ≠ b → s'.h.get c = s.h.get c
theorem mapW_set (s : St) (b : Nat) (o : AObj) : MapW s b { s with h := s.h.set b o } :=
 ⟨⟨fun c o hc ho => by simp only [PT.get_set]; rw [if_neg (by simpa using hc)]; exact ho, Nat.le_refl _, rfl⟩, rfl, rfl, fun c hc => by simp [PT.get_set, hc]⟩
theorem MapW.fr {s s' : St} {b : Nat} (h : MapW s b s') (hf : Fr s) (hb : s.h.get b ≠ none) : Fr s' := hf.wr hb h.2.1 h.2.2.2
theorem MapS.set {t kt et : TypeId} {ti : TyI} (K : KeyE D kt κ) {s : St} {b : Nat} {m : List (κ × AV)} (h : MapS K.f s b m) (ht : D.ty.get t = some ti) (hd : ti.d = .map kt et) (k : κ) (v : AV) :
  ∃ s', mapUpdA D s t (.map b) (K.f k) v = some s' ∧ MapS K.f s' b (mset m k v) ∧ MapW s b s' := by
 obtain ⟨es, clock, h1, rfl, h2, h3, h4⟩ := h
 obtain ⟨d, sz, by', ze, he'⟩ := ti
 simp only at hd
 subst hd
 have hf := findM_get es k 0
 cases hx : findM es k 0 with
 | none =>
  rw [hx] at hf
  simp only [Option.map_none] at hf
  refine ⟨_, by simp only [mapUpdA, ht, K.ok, Bool.not_true, Bool.false_eq_true, if_false, h1, findK_enc, hx]; rfl, ⟨es ++ [(k, v, clock)], clock + 1, by simp [encE], ?_, mset_nodup h2 k v, ?_, ?_⟩, mapW_set _ _ _⟩
  ·rw [mset_none hf.symm]; simp [kv]
  ·simp only [List.map_append, List.map_cons, List.map_nil]
   rw [List.nodup_append]
   exact ⟨h3, by simp, fun a ha c hc => by simp at hc; subst hc; have := h4 a ha; omega⟩
  ·intro t ht
   simp only [List.map_append, List.map_cons, List.map_nil, List.mem_append, List.mem_singleton] at ht
   rcases ht with ht | ht
   ·have := h4 t ht; omega
   ·omega
 | some p =>
  obtain ⟨i, w⟩ := p
  obtain ⟨_, es', he⟩ := findM_set es k 0 i w v hx
  obtain ⟨e1, e2, e3⟩ := he K.f
  rw [Nat.sub_zero] at e1
  refine ⟨_, by simp only [mapUpdA, ht, K.ok, Bool.not_true, Bool.false_eq_true, if_false, h1, findK_enc, hx]; rfl, ⟨es', clock, by simp [e1], e2, mset_nodup h2 k v, by rw [e3]; exact h3, by rw [e3]; exact h4⟩, mapW_set _ _ _⟩
def IterS (f : κ → AV) (s : St) (it b : Nat) (m rem : List (κ × AV)) : Prop :=
 ∃ (es : Ent κ) (clock : Nat) (seen : List Nat), s.h.get b = some (.map (encE f es) clock) ∧ kv es = m ∧ (∀ t, t ∈ es.map (·.2.2) → t < clock) ∧ (es.map (·.2.2)).Nodup ∧ s.h.get it = some (.iter (some b) clock seen clock) ∧ kv (es.filter fun e => !rmBorn seen e.2.2) = rem
theorem IterS.fwd {f : κ → AV} {M : List Nat} {s s' : St} {it b : Nat} {m rem : List (κ × AV)} (h : IterS f s it b m rem) (hf : Frw M s s') (hb : b ∉ M) (hi : it ∉ M) : IterS f s' it b m rem := by
 obtain ⟨es, clock, seen, h1, h2, h3, h4, h5, h6⟩ := h
 exact ⟨es, clock, seen, hf.1 b _ hb h1, h2, h3, h4, hf.1 it _ hi h5, h6⟩
theorem IterS.ext {f : κ → AV} {s s' : St} {it b : Nat} {m rem : List (κ × AV)} (h : IterS f s it b m rem) (hf : Frw [] s s') : IterS f s' it b m rem := h.fwd hf (by simp) (by simp)
theorem MapS.range {f : κ → AV} {t kt et : TypeId} {ti : TyI} {s : St} {b : Nat} {m : List (κ × AV)} (h : MapS f s b m) (ht : D.ty.get t = some ti) (hd : ti.d = .map kt et) (hfr : Fr s) :
  ∃ it s', rangeA D s t (.map b) = some (.ptr it 0, s') ∧ IterS f s' it b m m ∧ Frw [] s s' ∧ Fr s' ∧ s.h.get it = none ∧ it = s.nx := by
 obtain ⟨es, clock, h1, rfl, _, h3, h4⟩ := h
 have hN : NewO s (.iter (some b) clock [] clock) s.nx (s.new (.iter (some b) clock [] clock)).2 := ⟨rfl, rfl, hfr⟩
 refine ⟨s.nx, _, by simp only [rangeA, ht, hd, h1]; rfl, ⟨es, clock, [], hN.fwd.1 b _ (by simp) h1, rfl, h4, h3, hN.get, ?_⟩, hN.fwd, hN.fr, hN.gone, rfl⟩
 rw [List.filter_eq_self.2]
 simp [rmBorn]
theorem rmBorn_append (a b : List Nat) (n : Nat) : rmBorn (a ++ b) n = (rmBorn a n || rmBorn b n) := by
 induction a with
 | nil => simp [rmBorn]
 | cons x r ih => simp [rmBorn, ih, Bool.or_assoc]
theorem IterS.next {f : κ → AV} {s : St} {it b : Nat} {m rem : List (κ × AV)} (h : IterS f s it b m rem) :
  ∃ l, nextA s (.ptr it 0) false = some l ∧ ∀ v s', (v, s') ∈ l → (v = .tuple [.bool false] ∧ s' = s ∧ rem = []) ∨
   ∃ a k x c, rem = a ++ (k, x) :: c ∧ v = .tuple [.bool true, f k, x] ∧ IterS f s' it b m (a ++ c) ∧ Frw [it] s s' ∧ s'.nx = s.nx ∧ s'.nc = s.nc ∧ ∀ c, c ≠ it → s'.h.get c = s.h.get c := by
 obtain ⟨es, clock, seen, h1, rfl, h3, h4, h5, rfl⟩ := h
 have hib : it ≠ b := by rintro rfl; rw [h1] at h5; simp at h5
 have hall : (!seen.isEmpty && !(encE f es).isEmpty && (encE f es).all fun e => Nat.ble clock e.2.2) = false := by
  cases hes : es with
  | nil => simp [encE]
  | cons e r =>
   have := h3 e.2.2 (by rw [hes]; simp)
   have hb : Nat.ble clock e.2.2 = false := by
    rw [← Bool.not_eq_true, Nat.ble_eq]; omega
   simp [encE, hb]
 have hold : oldOf seen clock (encE f es) = encE f (es.filter fun e => !rmBorn seen e.2.2) := by
  unfold oldOf
  rw [List.filter_eq_self.2]
  ·simp only [encE, List.filter_map]; rfl
  ·intro e he
   have he := (List.mem_filter.1 he).1
   simp only [encE, List.mem_map] at he
   obtain ⟨e0, h0, rfl⟩ := he
   have := h3 e0.2.2 (List.mem_map.2 ⟨e0, h0, rfl⟩)
   rw [Nat.blt_eq]; exact this
 have hnew : newOf seen clock (encE f es) = [] := by
  unfold newOf
  rw [List.filter_eq_nil_iff]
  intro e he
  have he := (List.mem_filter.1 he).1
  simp only [encE, List.mem_map] at he
  obtain ⟨e0, h0, rfl⟩ := he
  have := h3 e0.2.2 (List.mem_map.2 ⟨e0, h0, rfl⟩)
  show ¬ Nat.ble clock e0.2.2 = true
  rw [Nat.ble_eq]; omega
 refine ⟨_, by simp only [nextA, h5, h1, hall, Bool.false_eq_true, if_false]; rfl, fun v s' hm => ?_⟩
 rw [hold, hnew, List.append_nil] at hm
 rcases List.mem_append.1 hm with hm | hm
 ·split at hm
  ·rename_i he
   simp only [List.mem_singleton, Prod.mk.injEq] at hm
   refine .inl ⟨hm.1, hm.2, ?_⟩
   have : es.filter (fun e => !rmBorn seen e.2.2) = [] := by
    have := List.isEmpty_iff.1 he
    simpa [encE] using this
   rw [this]; rfl
  ·simp at hm
 ·obtain ⟨e1, g1, g2⟩ := List.mem_map.1 hm
  simp only [encE, List.mem_map] at g1
  obtain ⟨e, g1, rfl⟩ := g1
  obtain ⟨k, x, t⟩ := e
  simp only [stepTo, Prod.mk.injEq] at g2
  obtain ⟨rfl, rfl⟩ := g2
  obtain ⟨a, c, hac⟩ := List.append_of_mem g1
  refine .inr ⟨kv a, k, x, kv c, by rw [hac]; simp [kv], rfl, ⟨es, clock, seen ++ [t], ?_, rfl, h3, h4, by simp, ?_⟩, ⟨fun d o hd ho => ?_, Nat.le_refl _, rfl⟩, rfl, rfl, fun d hd => by simp [PT.get_set, hd]⟩
  ·simp only [PT.get_set]; rw [if_neg (Ne.symm hib)]; exact h1
  ·have e1 : (es.filter fun e => !rmBorn (seen ++ [t]) e.2.2) = (es.filter fun e => !rmBorn seen e.2.2).filter fun e => !Nat.beq t e.2.2 := by
    rw [List.filter_filter]
    congr 1
    funext e
    rw [rmBorn_append]
    simp [rmBorn, Bool.and_comm]
   have hnd : ((es.filter fun e => !rmBorn seen e.2.2).map (·.2.2)).Nodup := h4.sublist (List.filter_sublist.map _)
   rw [e1, hac]
   rw [hac] at hnd
   simp only [List.map_append, List.map_cons, List.nodup_append, List.nodup_cons, List.mem_cons] at hnd
   obtain ⟨n1, ⟨n2, n3⟩, n4⟩ := hnd
   have fa : a.filter (fun e => !Nat.beq t e.2.2) = a := by
    rw [List.filter_eq_self]
    intro e he
    have := n4 e.2.2 (List.mem_map.2 ⟨e, he, rfl⟩) t (.inl rfl)
    simp only [Bool.not_eq_true', ← Bool.not_eq_true, Nat.beq_eq]
    exact fun h => this h.symm
   have fc : c.filter (fun e => !Nat.beq t e.2.2) = c := by
    rw [List.filter_eq_self]
    intro e he
    simp only [Bool.not_eq_true', ← Bool.not_eq_true, Nat.beq_eq]
    rintro h
    exact n2 (List.mem_map.2 ⟨e, he, h.symm⟩)
   rw [List.filter_append, List.filter_cons, fa, fc]
   simp [kv]
  ·simp only [PT.get_set]; rw [if_neg (by simpa using hd)]; exact ho
end
end Go.Eng

namespace Go.Eng
noncomputable section
variable {P : Program} {D : Tab}
theorem ba_ext {a b : ByteArray} (h : a.data.toList = b.data.toList) : a = b := by
 obtain ⟨⟨a⟩⟩ := a
 obtain ⟨⟨b⟩⟩ := b
 simp at h
 rw [h]
theorem sEq_eq (a b : ByteArray) : bytesEq a.data.toList b.data.toList = decide (a = b) := by
 rw [Bool.eq_iff_iff, bytesEq_iff, decide_eq_true_iff]
 exact ⟨ba_ext, fun h => by rw [h]⟩
theorem hsetS_own {s : St} {b : Nat} {cs : List AV} : Own (hsetS s b (cellsO cs)) b cs := by
 refine ⟨_, by simp only [hsetS, PT.get_set_same]; rfl, getAll_of rfl fun i hi => ?_⟩
 rw [PT.get_setAll, if_pos (by omega)]
 simp
theorem hsetS_fwd {s : St} {b : Nat} {o : AObj} (hb : s.h.get b = none) : Frw [] s (hsetS s b o) :=
 ⟨fun c x _ hx => by
  have : c ≠ b := by rintro rfl; rw [hb] at hx; simp at hx
  simp only [hsetS, PT.get_set]; rw [if_neg this]; exact hx, Nat.le_refl _, rfl⟩
theorem hsetS_fr {s : St} {b : Nat} {o : AObj} (h : Fr s) (hb : b < s.nx) : Fr (hsetS s b o) := fun c hc => by
 have hc : s.nx ≤ c := hc
 have : c ≠ b := by omega
 simp [hsetS, PT.get_set, this, h c hc]
theorem Bump.lt {s s' : St} {n : Nat} (h : Bump s n s') : s'.nx = s.nx + n := by obtain ⟨rfl, _⟩ := h; rfl
theorem Frw.gone {s s' : St} {M : List Nat} (h : Frw M s s') {c : Nat} (hc : s.h.get c ≠ Option.none) (hm : c ∉ M) : s'.h.get c ≠ Option.none := by
 cases e : s.h.get c with
 | none => exact absurd e hc
 | some o => rw [h.1 c o hm e]; simp
def NoCells (s : St) (b : Nat) : Prop := ∀ c n tl, s.h.get b ≠ some (.cells c n tl)
theorem Sl.beside {α : Type} {E : Enc α} {s s' : St} {x : AV} {l : List α} {M : List Nat} (h : Sl E s x l) (hf : Frw M s s') (hM : ∀ c, c ∈ M → NoCells s c ∨ c ∉ blkOf x) : Sl E s' x l := by
 rcases h with h | ⟨b, o, n, cap, rfl, h2, h3⟩
 ·exact .inl h
 ·refine .inr ⟨b, o, n, cap, rfl, h2, h3.fwd hf fun hb => ?_⟩
  rcases hM b hb with h | h
  ·obtain ⟨c, n, tl, g, _⟩ := h3
   exact h _ _ _ g
  ·exact h (by simp [blkOf])
theorem So.there {α : Type} {E : Enc α} {s : St} {x : AV} {l : List α} (h : So E s x l) : ∀ c, c ∈ blkOf x → s.h.get c ≠ none := by
 rcases h with ⟨rfl, _⟩ | ⟨b1, k1, n1, c1, rfl, _, q3, _⟩
 ·simp [blkOf]
 ·intro c hc
  have : c = b1 := by simpa [blkOf] using hc
  rw [this, q3]; simp
theorem IterS.entry {κ : Type} [DecidableEq κ] {f : κ → AV} {s : St} {it b : Nat} {m rem : List (κ × AV)} (h : IterS f s it b m rem) :
  ∃ l, nextA s (.ptr it 0) false = some l ∧ ∀ v s', (v, s') ∈ l → (v = .tuple [.bool false] ∧ s' = s ∧ rem = []) ∨
   ∃ a k x c, rem = a ++ (k, x) :: c ∧ v = .tuple [.bool true, f k, x] ∧ IterS f s' it b m (a ++ c) ∧ Frw [it] s s' ∧ s'.nx = s.nx ∧ s'.nc = s.nc ∧ (∀ c, c ≠ it → s'.h.get c = s.h.get c) ∧ entryA s' (.ptr it 0) = some (.tuple [f k, x]) := by
 obtain ⟨l, h1, h2⟩ := h.next
 refine ⟨l, h1, fun v s' hm => ?_⟩
 rcases h2 v s' hm with h3 | ⟨a, k, x, c, e1, e2, e3, e4, e5, e6, e7⟩
 ·exact .inl h3
 ·refine .inr ⟨a, k, x, c, e1, e2, e3, e4, e5, e6, e7, ?_⟩
  obtain ⟨es, clock, seen, g1, g2, g3, g4, g5, g6⟩ := h
  have hib : it ≠ b := by rintro rfl; rw [g1] at g5; simp at g5
  have hl : ∃ e, e ∈ es ∧ (v, s') = stepTo s it b clock seen clock (f e.1, e.2.1, e.2.2) := by
   unfold nextA at h1
   simp only [g5, g1] at h1
   split at h1
   ·simp at h1
   ·simp only [Option.some.injEq] at h1
    rw [← h1] at hm
    rcases List.mem_append.1 hm with hm | hm
    ·split at hm
     ·simp only [List.mem_singleton, Prod.mk.injEq] at hm
      rw [e2] at hm
      simp at hm
     ·simp at hm
    ·obtain ⟨e, m1, m2⟩ := List.mem_map.1 hm
     have : e ∈ encE f es := by
      rcases List.mem_append.1 m1 with m1 | m1
      ·exact (List.mem_filter.1 (List.mem_filter.1 m1).1).1
      ·exact (List.mem_filter.1 (List.mem_filter.1 m1).1).1
     simp only [encE, List.mem_map] at this
     obtain ⟨e0, m3, rfl⟩ := this
     exact ⟨e0, m3, m2.symm⟩
  obtain ⟨⟨k0, x0, t0⟩, m1, m2⟩ := hl
  simp only [stepTo, Prod.mk.injEq] at m2
  obtain ⟨m2, rfl⟩ := m2
  rw [e2] at m2
  simp only [AV.tuple.injEq, List.cons.injEq, true_and, and_true] at m2
  obtain ⟨m3, rfl⟩ := m2
  rw [m3]
  have hlast : ∀ (l : List Nat) (n : Nat), lastN (l ++ [n]) = some n := by
   intro l n
   induction l with
   | nil => rfl
   | cons a r ih =>
    cases r with
    | nil => rfl
    | cons b r => simpa [lastN] using ih
  have hb' : (s.h.set it (AObj.iter (some b) clock (seen ++ [t0]) clock)).get b = some (.map (encE f es) clock) := by
   rw [PT.get_set, if_neg (Ne.symm hib)]; exact g1
  have hf : ∀ (es : Ent κ), (es.map (·.2.2)).Nodup → (k0, x, t0) ∈ es → findBorn (encE f es) t0 = some (.tuple [f k0, x]) := by
   intro es
   induction es with
   | nil => intro _ h; simp at h
   | cons e r ih =>
    intro hn hm
    obtain ⟨k1, x1, t1⟩ := e
    simp only [List.map_cons, List.nodup_cons] at hn
    simp only [encE, List.map_cons, findBorn]
    rcases List.mem_cons.1 hm with hm | hm
    ·simp only [Prod.mk.injEq] at hm
     obtain ⟨rfl, rfl, rfl⟩ := hm
     simp [Nat.beq_refl]
    ·have : t1 ≠ t0 := by
      rintro rfl
      exact hn.1 (List.mem_map.2 ⟨_, hm, rfl⟩)
     have hb : Nat.beq t1 t0 = false := by rw [← Bool.not_eq_true, Nat.beq_eq]; exact this
     rw [hb]
     exact ih hn.2 hm
  simp only [entryA, PT.get_set_same, hb', hlast, Nat.beq_refl, hf es g4 m1]
end
end Go.Eng

namespace Go.Eng
noncomputable section
variable {P : Program} {D : Tab} {α : Type}
theorem sliceCells_of {E : Enc α} {s : St} {x : AV} {l : List α} (h : Sl E s x l) : sliceCells s.h E.z x = some (l.flatMap E.f) ∧ avLen x = some l.length := by
 have hlen := h.len
 rcases h with ⟨h1, h2⟩ | ⟨b, o, n, cap, rfl, h1, c, k, tl, g1, g2, g3⟩
 ·rw [slZero_len h1] at hlen
  simp only [Option.some.injEq] at hlen
  have h0 : l = [] := List.length_eq_zero_iff.1 hlen.symm
  subst h0
  cases x <;> simp [slZero] at h1 <;> exact ⟨rfl, rfl⟩
 ·have hn : n = l.length := by simpa [slLen] using hlen
  refine ⟨?_, by rw [← hn]; rfl⟩
  have hb : Nat.ble (o + n * E.z) k = true := by rw [Nat.ble_eq, ← h1]; exact g2
  simp only [sliceCells, g1, hb, if_true]
  rw [← h1]; exact g3
end
end Go.Eng

namespace Go.Eng
noncomputable section
variable {P : Program} {D : Tab} {α : Type}
theorem splice_mid {A B C vs : List AV} {j : Nat} (hj : j + vs.length ≤ B.length) : splice (A ++ B ++ C) (A.length + j) vs = A ++ splice B j vs ++ C := by
 simp only [splice, List.append_assoc]
 rw [List.take_length_add_append, List.take_append_of_le_length (by omega), Nat.add_assoc, List.drop_length_add_append, List.drop_append_of_le_length (by omega)]
 simp only [List.append_assoc]
theorem Enc.flat_set (E : Enc α) {l : List α} {k : Nat} (hk : k < l.length) {j : Nat} {vs : List AV} {a : α} (hj : j + vs.length ≤ E.z) (ha : splice (E.f l[k]) j vs = E.f a) : splice (l.flatMap E.f) (k * E.z + j) vs = (l.set k a).flatMap E.f := by
 have e1 : l.flatMap E.f = (l.take k).flatMap E.f ++ E.f l[k] ++ (l.drop (k + 1)).flatMap E.f := by
  conv => lhs; rw [← List.take_append_drop k l, List.drop_eq_getElem_cons hk]
  rw [List.flatMap_append, List.flatMap_cons, List.append_assoc]
 have e2 : ((l.take k).flatMap E.f).length = k * E.z := by rw [E.flat_len, List.length_take, Nat.min_eq_left (by omega)]
 rw [e1, ← e2, splice_mid (by rw [E.len]; exact hj), ha, List.set_eq_take_append_cons_drop, if_pos hk, List.flatMap_append, List.flatMap_cons, List.append_assoc]
theorem So.ixsWr {E : Enc α} {s : St} {x : AV} {l : List α} (h : So E s x l) {z : Nat} (hz : z = E.z) {i : Int} {k : Nat} (hi : i = (k : Int)) (hk : k < l.length) {j : Nat} {vs : List AV} {a : α} (hv : ones vs = true) (hj : j + vs.length ≤ E.z) (ha : splice (E.f l[k]) j vs = E.f a) {K : Nat → Nat → Prop}
  (hK : ∀ b o s', blkOf x = [b] → wrN s (.ptr b (o + j)) vs = some s' → So E s' x (l.set k a) → Frw [b] s s' → s'.nx = s.nx → (∀ c, c ≠ b → s'.h.get c = s.h.get c) → K b o) : ixsK z x i K := by
 subst hz; subst hi
 have hlen := h.sl.len
 rcases h with ⟨rfl, h2⟩ | ⟨b, kk, n, c, rfl, g1, g2, g3⟩
 ·simp only [slLen, Option.some.injEq] at hlen
  omega
 ·have hn : n = l.length := by simpa [slLen] using hlen
  refine ⟨by omega, by simp only [hn]; omega, ?_⟩
  rw [mulS_eq, Int.toNat_natCast, Nat.zero_add]
  have hmul : (k + 1) * E.z ≤ n * E.z := Nat.mul_le_mul_right _ (by omega)
  rw [Nat.add_mul, Nat.one_mul] at hmul
  have hb : Nat.ble (k * E.z + j + vs.length) (n * E.z) = true := by rw [Nat.ble_eq]; omega
  refine hK b _ { s with h := s.h.set b (.cells (c.setAll (k * E.z + j) vs) (n * E.z) (some (kk, E.z))) } (by simp [blkOf]) ?_ (.inr ⟨b, kk, n, c.setAll (k * E.z + j) vs, rfl, by rw [E.flat_len, List.length_set, hn], by simp [PT.get_set_same], ?_⟩) ⟨fun d o hd hx => ?_, Nat.le_refl _, rfl⟩ rfl fun d hd => by simp [PT.get_set, hd]
  ·have hwr : wr (some (kk, E.z)) = true := by
    have := E.pos
    cases h : E.z with
    | zero => omega
    | succ => rfl
   simp only [wrN, writeAll, g2, hv, hb, hwr, Bool.and_self, if_true]
  ·rw [← E.flat_set hk hj ha]
   have hl : (splice (l.flatMap E.f) (k * E.z + j) vs).length = n * E.z := by
    simp only [splice, List.length_append, List.length_take, List.length_drop, g1]; omega
   refine getAll_of hl fun i hi => ?_
   obtain ⟨_, hg⟩ := PT.getAll_spec _ c 0 _ g3
   have hg' := hg i hi
   rw [Nat.zero_add] at hg' ⊢
   rw [PT.get_setAll]
   by_cases hin : k * E.z + j ≤ i ∧ i < k * E.z + j + vs.length
   ·rw [if_pos hin]
    simp only [splice]
    rw [List.append_assoc, List.getElem?_append_right (by simp only [List.length_take, g1]; omega), List.getElem?_append_left (by simp only [List.length_take, g1]; omega)]
    congr 1
    simp only [List.length_take, g1]; omega
   ·rw [if_neg hin, hg']
    simp only [splice]
    by_cases hlo : i < k * E.z + j
    ·rw [List.append_assoc, List.getElem?_append_left (by simp only [List.length_take, g1]; omega), List.getElem?_take_of_lt hlo]
    ·rw [List.getElem?_append_right (by simp only [List.length_append, List.length_take, g1]; omega)]
     simp only [List.length_append, List.length_take, List.getElem?_drop, g1]
     congr 1
     omega
  ·have : d ≠ b := by simpa using hd
   simp [PT.get_set, this, hx]
end
end Go.Eng

namespace Go.Eng
noncomputable section
variable {α : Type} [Inhabited α]
def at' (l : List α) (i : Nat) : α := (l[i]?).getD default
theorem at_eq {l : List α} {i : Nat} (h : i < l.length) : l[i] = at' l i := by simp [at', h]
theorem at_set {l : List α} {i k : Nat} {x : α} (hi : i < l.length) : at' (l.set i x) k = if k = i then x else at' l k := by
 unfold at'
 rw [List.getElem?_set]
 by_cases e : k = i
 ·subst e; simp [hi]
 ·rw [if_neg (Ne.symm e), if_neg e]
def sw (l : List α) (i j : Nat) : List α := (l.set i (at' l j)).set j (at' l i)
@[simp] theorem sw_len (l : List α) (i j : Nat) : (sw l i j).length = l.length := by simp [sw]
theorem at_sw {l : List α} {i j k : Nat} (hi : i < l.length) (hj : j < l.length) : at' (sw l i j) k = if k = j then at' l i else if k = i then at' l j else at' l k := by
 unfold sw
 rw [at_set (by simpa using hj), at_set hi]
theorem sw_perm {l : List α} {i j : Nat} (hi : i < l.length) (hj : j < l.length) : (sw l i j).Perm l := by
 have h := Array.swap_perm (xs := l.toArray) (i := i) (j := j) (by simpa using hi) (by simpa using hj)
 have h2 := h.toList
 have e : (l.toArray.swap i j (by simpa using hi) (by simpa using hj)).toList = sw l i j := by
  simp [Array.swap, sw, at_eq hi, at_eq hj]
 rw [e] at h2
 simpa using h2
structure RP (a b : Nat) (l l' : List α) : Prop where
 len : l'.length = l.length
 out : ∀ k, (k < a ∨ b ≤ k) → at' l' k = at' l k
 perm : l'.Perm l
theorem RP.refl (a b : Nat) (l : List α) : RP a b l l := ⟨rfl, fun _ _ => rfl, .refl _⟩
theorem RP.trans {a b : Nat} {l l1 l2 : List α} (h : RP a b l l1) (h' : RP a b l1 l2) : RP a b l l2 := ⟨h'.len.trans h.len, fun k hk => (h'.out k hk).trans (h.out k hk), h'.perm.trans h.perm⟩
theorem RP.mono {a b a' b' : Nat} {l l' : List α} (h : RP a b l l') (ha : a' ≤ a) (hb : b ≤ b') : RP a' b' l l' := ⟨h.len, fun k hk => h.out k (by omega), h.perm⟩
theorem RP.sw {a b i j : Nat} {l : List α} (hi : i < l.length) (hj : j < l.length) (h1 : a ≤ i ∧ i < b) (h2 : a ≤ j ∧ j < b) : RP a b l (sw l i j) := by
 refine ⟨by simp, fun k hk => ?_, sw_perm hi hj⟩
 rw [at_sw hi hj, if_neg (by omega), if_neg (by omega)]
theorem take_of_at {l l' : List α} {a : Nat} (hl : l'.length = l.length) (h : ∀ k, k < a → at' l' k = at' l k) : l'.take a = l.take a := by
 refine List.ext_getElem (by simp [hl]) fun i h1 h2 => ?_
 have g1 : i < l'.length := by simp at h1; omega
 have g2 : i < l.length := by omega
 have : i < a := by simp at h1; omega
 rw [List.getElem_take, List.getElem_take, at_eq g1, at_eq g2, h i this]
theorem drop_of_at {l l' : List α} {b : Nat} (hl : l'.length = l.length) (h : ∀ k, b ≤ k → at' l' k = at' l k) : l'.drop b = l.drop b := by
 refine List.ext_getElem (by simp [hl]) fun i h1 h2 => ?_
 have g1 : b + i < l'.length := by simp at h1; omega
 have g2 : b + i < l.length := by omega
 rw [List.getElem_drop, List.getElem_drop, at_eq g1, at_eq g2, h (b + i) (by omega)]
omit [Inhabited α] in
theorem parts3 (l : List α) (a b : Nat) (hab : a ≤ b) : l = l.take a ++ ((l.drop a).take (b - a) ++ l.drop b) := by
 have h1 := (List.take_append_drop a l).symm
 have h2 := (List.take_append_drop (b - a) (l.drop a)).symm
 rw [List.drop_drop] at h2
 rw [show a + (b - a) = b by omega] at h2
 rw [← h2]; exact h1
theorem RP.mid {a b : Nat} {l l' : List α} (h : RP a b l l') (hab : a ≤ b) : ((l'.drop a).take (b - a)).Perm ((l.drop a).take (b - a)) := by
 have hp := h.perm
 rw [parts3 l a b hab, parts3 l' a b hab, take_of_at h.len fun k hk => h.out k (.inl hk), drop_of_at h.len fun k hk => h.out k (.inr hk)] at hp
 exact (List.perm_append_right_iff _).1 ((List.perm_append_left_iff _).1 hp)
theorem RP.all {a b : Nat} {l l' : List α} (h : RP a b l l') (hb : b ≤ l.length) {p : α → Prop} (hp : ∀ k, a ≤ k → k < b → p (at' l k)) : ∀ k, a ≤ k → k < b → p (at' l' k) := by
 intro k h1 h2
 have hm := h.mid (Nat.le_trans h1 (Nat.le_of_lt h2))
 have g1 : k < l'.length := by have := h.len; omega
 have hin : at' l' k ∈ (l'.drop a).take (b - a) := by
  rw [← at_eq g1]
  refine List.mem_iff_getElem.2 ⟨k - a, by simp; omega, ?_⟩
  rw [List.getElem_take, List.getElem_drop]
  congr 1; omega
 obtain ⟨i, hi, he⟩ := List.mem_iff_getElem.1 (hm.mem_iff.1 hin)
 simp at hi
 rw [List.getElem_take, List.getElem_drop, at_eq (by omega)] at he
 rw [← he]
 exact hp _ (by omega) (by omega)
structure LtO (lt : α → α → Bool) : Prop where
 irrefl : ∀ x, lt x x = false
 asym : ∀ x y, lt x y = true → lt y x = false
 ntrans : ∀ x y z, lt y x = false → lt z y = false → lt z x = false
def Rise (lt : α → α → Bool) (a b : Nat) (l : List α) : Prop := ∀ i j, a ≤ i → i < j → j < b → lt (at' l j) (at' l i) = false
theorem Rise.small {lt : α → α → Bool} {a b : Nat} {l : List α} (h : b ≤ a + 1) : Rise lt a b l := fun i j h1 h2 h3 => by omega
theorem Rise.of_out {lt : α → α → Bool} {a b c d : Nat} {l l' : List α} (h : Rise lt c d l) (hr : RP a b l l') (hd : d ≤ a ∨ b ≤ c) : Rise lt c d l' := fun i j h1 h2 h3 => by
 rw [hr.out i (by omega), hr.out j (by omega)]; exact h i j h1 h2 h3
theorem Rise.snoc {lt : α → α → Bool} (hO : LtO lt) {a i : Nat} {l : List α} (h : Rise lt a i l) (ha : a < i) (hl : lt (at' l i) (at' l (i - 1)) = false) : Rise lt a (i + 1) l := by
 intro p q h1 h2 h3
 by_cases e : q = i
 ·subst e
  by_cases e2 : p = q - 1
  ·rw [e2]; exact hl
  ·exact hO.ntrans _ _ _ (h p (q - 1) h1 (by omega) (by omega)) hl
 ·exact h p q h1 h2 (by omega)
theorem Rise.less {lt : α → α → Bool} {a i j : Nat} {l : List α} (h : Rise lt a i l) (hj : j ≤ i) : Rise lt a j l := fun p q h1 h2 h3 => h p q h1 h2 (by omega)
theorem Rise.same {lt : α → α → Bool} {a i : Nat} {l l' : List α} (h : Rise lt a i l) (he : ∀ k, a ≤ k → k < i → at' l' k = at' l k) : Rise lt a i l' := fun p q h1 h2 h3 => by rw [he p h1 (by omega), he q (by omega) h3]; exact h p q h1 h2 h3
theorem wr_nat {a : Nat} (h : a < 9223372036854775808) : IntKind.wrap .i64 (a : Int) = (a : Int) := wrap_i64 (by omega) (by omega)
theorem wr_add {a b : Nat} (h : a + b < 9223372036854775808) : IntKind.wrap .i64 ((a : Int) + (b : Int)) = ((a + b : Nat) : Int) := by rw [wrap_i64 (by omega) (by omega)]; omega
theorem wr_succ {a : Nat} (h : a + 1 < 9223372036854775808) : IntKind.wrap .i64 ((a : Int) + 1) = ((a + 1 : Nat) : Int) := by rw [wrap_i64 (by omega) (by omega)]; omega
theorem wr_sub {a b : Nat} (h : b ≤ a) (h2 : a < 9223372036854775808) : IntKind.wrap .i64 ((a : Int) - (b : Int)) = ((a - b : Nat) : Int) := by rw [wrap_i64 (by omega) (by omega)]; omega
theorem wr_pred {a : Nat} (h : 0 < a) (h2 : a < 9223372036854775808) : IntKind.wrap .i64 ((a : Int) - 1) = ((a - 1 : Nat) : Int) := by rw [wrap_i64 (by omega) (by omega)]; omega
theorem wr_dbl {a : Nat} (h : 2 * a < 9223372036854775808) : IntKind.wrap .i64 (2 * (a : Int)) = ((2 * a : Nat) : Int) := by rw [wrap_i64 (by omega) (by omega)]; omega
theorem wr_half {a b : Nat} (hb : 0 < b) (h : a < 9223372036854775808) : IntKind.wrap .i64 (Int.tdiv (a : Int) (b : Int)) = ((a / b : Nat) : Int) := by
 rw [Int.tdiv_eq_ediv_of_nonneg (by omega), wrap_i64 (by have := Int.ediv_nonneg (a := (a : Int)) (b := (b : Int)) (by omega) (by omega); omega) (by have := Nat.div_le_self a b; have e : (a : Int) / (b : Int) = ((a / b : Nat) : Int) := (Int.natCast_ediv a b).symm; omega)]
 exact (Int.natCast_ediv a b).symm
theorem wrap_u8 {a : Int} (h0 : 0 ≤ a) (h1 : a < 256) : IntKind.wrap .u8 a = a := by
 simp [IntKind.wrap, IntKind.bits, IntKind.signed]
 omega
theorem fdiv_pow (x c : Nat) : Int.fdiv (x : Int) (2 ^ c) = ((x / 2 ^ c : Nat) : Int) := by
 rw [Int.fdiv_eq_ediv_of_nonneg _ (Int.le_of_lt (Int.pow_pos (by decide)))]
 push_cast; rfl
def LenP (x n : Nat) : Prop := x < 2 ^ n ∧ (0 < n → 2 ^ (n - 1) ≤ x)
theorem LenP.shift {x c m : Nat} (hx : 2 ^ c ≤ x) (h : LenP (x / 2 ^ c) m) : LenP x (m + c) := by
 have h0 : 0 < 2 ^ c := Nat.pow_pos (by omega)
 obtain ⟨h1, h2⟩ := h
 refine ⟨?_, fun _ => ?_⟩
 ·rw [Nat.pow_add]
  exact (Nat.div_lt_iff_lt_mul h0).1 h1
 ·have hm : 0 < m := by
   refine Nat.pos_of_ne_zero fun e => ?_
   subst e
   have : 1 ≤ x / 2 ^ c := (Nat.le_div_iff_mul_le h0).2 (by omega)
   simp at h1
   omega
  have := h2 hm
  rw [show m + c - 1 = (m - 1) + c by omega, Nat.pow_add]
  exact (Nat.le_div_iff_mul_le h0).1 this
def lenAt (B : ByteArray) (i : Nat) : Bool :=
 match B.data.toList[i]? with
 | some c => decide (i < 2 ^ c.toNat) && (decide (c.toNat = 0) || decide (2 ^ (c.toNat - 1) ≤ i)) && decide (c.toNat ≤ 8)
 | none => false
theorem byteK_len {B : ByteArray} (hB : (List.range 256).all (lenAt B) = true) {y : Nat} (hy : y < 256) {i : Int} (hi : i = (y : Int)) {K : UInt8 → Prop} (hK : ∀ c : UInt8, LenP y c.toNat → c.toNat ≤ 8 → K c) : byteK B i K := by
 subst hi
 have := List.all_eq_true.1 hB y (List.mem_range.2 hy)
 unfold lenAt at this
 split at this
 ·rename_i c hc
  simp only [Bool.and_eq_true, Bool.or_eq_true, decide_eq_true_eq] at this
  exact ⟨by omega, c, by simpa using hc, hK c ⟨this.1.1, fun h => this.1.2.resolve_left (by omega)⟩ this.2⟩
 ·simp at this
theorem and_lt (u : Int) {M : Nat} (h0 : 0 < M) (hM : M < 18446744073709551616) : (BitVec.ofInt 64 u &&& BitVec.ofInt 64 (IntKind.wrap .u64 ((M : Int) - 1))).toNat < M := by
 rw [wrap_u64 (by omega) (by omega), BitVec.toNat_and]
 refine Nat.lt_of_le_of_lt Nat.and_le_right ?_
 rw [show ((M : Int) - 1) = ((M - 1 : Nat) : Int) by omega, BitVec.toNat_ofInt]
 have : (((M - 1 : Nat) : Int) % ((2 ^ 64 : Nat) : Int)).toNat = M - 1 := by omega
 omega
variable {P : Program} {D : Tab}
def oneE {α : Type} (mk : α → AV) : Enc α := ⟨fun x => [mk x], 1, by decide, fun _ => rfl⟩
structure Row {α : Type} (mk : α → AV) (s0 : St) (x : AV) (s : St) (l : List α) : Prop where
 so : So (oneE mk) s x l
 frw : Frw (blkOf x) s0 s
 fr : Fr s
omit [Inhabited α] in
theorem Row.refl {mk : α → AV} {s : St} {x : AV} {l : List α} (h : So (oneE mk) s x l) (hf : Fr s) : Row mk s x s l := ⟨h, .refl _ _, hf⟩
omit [Inhabited α] in
theorem Row.ext {mk : α → AV} {s0 s s' : St} {x : AV} {l : List α} (h : Row mk s0 x s l) (hf : Frw [] s s') (hfr : Fr s') : Row mk s0 x s' l := ⟨h.so.ext hf, h.frw.trans (hf.mono (by simp)), hfr⟩
omit [Inhabited α] in
theorem Row.bump {mk : α → AV} {s0 s s' : St} {x : AV} {l : List α} {n : Nat} (h : Row mk s0 x s l) (hB : Bump s n s') : Row mk s0 x s' l := h.ext hB.fwd hB.fr
omit [Inhabited α] in
theorem Row.from {mk : α → AV} {s0 s s' : St} {x : AV} {l l' : List α} (h : Row mk s0 x s l) (h' : Row mk s x s' l') : Row mk s0 x s' l' := ⟨h'.so, h.frw.trans h'.frw, h'.fr⟩
theorem Row.rd {mk : α → AV} {s0 s : St} {x : AV} {l : List α} (h : Row mk s0 x s l) {i : Int} {k : Nat} (hi : i = (k : Int)) (hk : k < l.length) {R : α → Prop} (hR : R (at' l k)) : ixsK 1 x i fun b o => ∃ n, ld1 s (.ptr b o) = some (mk n) ∧ R n :=
 h.so.sl.ixs rfl hi hk fun b o hr => ⟨at' l k, by have := hr.ld1 0 (v := mk l[k]) rfl; rw [at_eq hk] at this; exact this, hR⟩
omit [Inhabited α] in
theorem Row.wr {mk : α → AV} (hm : ∀ x, ones [mk x] = true) {s0 s : St} {x : AV} {l : List α} (h : Row mk s0 x s l) {i : Int} {k : Nat} (hi : i = (k : Int)) (hk : k < l.length) (a : α) {R : St → Prop} (hR : ∀ s', Row mk s0 x s' (l.set k a) → R s') : ixsK 1 x i fun b o => ∃ s', wrN s (.ptr b o) [mk a] = some s' ∧ R s' :=
 So.ixsWr (j := 0) (vs := [mk a]) (a := a) h.so rfl hi hk (hm a) (Nat.le_refl _) (by simp [splice, oneE]) fun b o s' hb hw hso hf hn hc => ⟨s', hw, hR s' ⟨hso, h.frw.trans (hf.mono (by simp [hb])), h.fr.wr (h.so.there b (by simp [hb])) hn hc⟩⟩
theorem Row.swap {mk : α → AV} (hm : ∀ x, ones [mk x] = true) {s0 s : St} {x : AV} {l : List α} (h : Row mk s0 x s l) {i j : Int} {p q : Nat} (hi : i = (p : Int)) (hj : j = (q : Int)) (hp : p < l.length) (hq : q < l.length) {R : St → Prop} (hR : ∀ s', Row mk s0 x s' (sw l q p) → R s') :
  ixsK 1 x i fun b o => ∃ n, ld1 s (.ptr b o) = some (mk n) ∧ ixsK 1 x j fun b o => ∃ n', ld1 s (.ptr b o) = some (mk n') ∧ ixsK 1 x j fun b o => ∃ s1, wrN s (.ptr b o) [mk n] = some s1 ∧ ixsK 1 x i fun b o => ∃ s2, wrN s1 (.ptr b o) [mk n'] = some s2 ∧ R s2 :=
 h.rd hi hp (h.rd hj hq (h.wr hm hj hq _ fun s1 h1 => h1.wr hm hi (by simpa using hp) _ fun s2 h2 => hR s2 h2))
end
end Go.Eng

namespace Go.Eng
noncomputable section
variable {P : Program} {D : Tab} {α : Type}
end
end Go.Eng

namespace Go.Eng
noncomputable section
variable {P : Program} {D : Tab} {α : Type}
def ArgS (x : AV) : Prop := x = .nilslice ∨ x = .slice0 false ∨ ∃ b o n c, x = .slice b o n (.exact c) ∧ 0 < n ∧ n ≤ c
theorem absV_arg {m n : Nat} {v : Value} {a : AV} (h : absV m v = some a) (hs : slLen a = some n) : ArgS a := by
 unfold absV at h
 split at h
 all_goals first
  | (simp at h; done)
  | (simp at h; subst h; simp [slLen] at hs; done)
  | (simp at h; subst h; exact .inl rfl)
  | (simp at h; subst h; exact .inr (.inl rfl))
  | skip
 ·split at h
  ·simp at h; subst h; simp [slLen] at hs
  ·simp at h
 ·split at h
  ·rename_i hc
   simp at h; subst h
   exact .inr (.inr ⟨_, _, _, _, rfl, by omega, hc.2.2⟩)
  ·simp at h
end
end Go.Eng

namespace Go.Eng
noncomputable section
variable {P : Program} {D : Tab}
theorem Frw.go {s0 s1 s2 : St} {M M' : List Nat} (h : Frw M s0 s1) (h' : Frw M' s1 s2) (hm : ∀ c, c ∈ M' → c ∈ M ∨ s0.h.get c = Option.none) : Frw M s0 s2 :=
 ⟨fun c o hc ho => h'.1 c o (fun hx => (hm c hx).elim hc fun e => by rw [e] at ho; simp at ho) (h.1 c o hc ho), Nat.le_trans h.2.1 h'.2.1, h'.2.2.trans h.2.2⟩
theorem Frw.x {M : List Nat} {s s1 s2 : St} (h : Frw M s s1) (h' : Frw [] s1 s2) : Frw M s s2 := h.trans (h'.mono (by simp))
end
end Go.Eng

namespace Go.Eng
noncomputable section
variable {P : Program} {D : Tab} {α : Type}
theorem appendAll0 {E : Enc α} {s : St} {b : Nat} {y : AV} {l2 : List α} {t et : TypeId} {ti ei : TyI} {zv : AV} (hx : Own s b []) (hy : Sl E s y l2) (hti : D.ty.get t = some ti) (hd : ti.d = .slice et) (hei : D.ty.get et = some ei) (hsz : ei.size = E.z) (hzv : ei.zero = some zv) (hzl : zv.cells.length = E.z)
  (h1 : ∀ a, a ∈ l2 → ones (E.f a) = true) (hb : (l2.length + l2.length / 4 + 600) * ei.bytes ≤ pow48) (hbz : l2.length ≤ pow48) (hfr : Fr s) :
  ∃ v s', appendX D s t t (.slice b 0 0 (.exact 0)) y = some (v, s') ∧ Sl E s' v l2 ∧ ((l2 = [] ∧ v = .slice b 0 0 (.exact 0)) ∨ (So E s' v l2 ∧ ∀ c, c ∈ blkOf v → s.h.get c = none)) ∧ Frw [] s s' ∧ Fr s' := by
 obtain ⟨y1, y2⟩ := sliceCells_of hy
 have hs0 : Sl E s (.slice b 0 0 (.exact 0)) [] := .inr ⟨b, 0, 0, .exact 0, rfl, by simp, hx.rd⟩
 obtain ⟨x1, x2⟩ := sliceCells_of hs0
 have hzb : Nat.beq zv.cells.length ei.size = true := by rw [hzl, hsz, Nat.beq_refl]
 have hx0 : appendX D s t t (.slice b 0 0 (.exact 0)) y = appendA D s t t (.slice b 0 0 (.exact 0)) y := rfl
 rw [hx0]
 have hsq : isSeq ti.d = true := by rw [hd]; rfl
 simp only [appendA, hti, hd, hei, hzv, isSeq, hzb, Bool.and_self, if_true, appendB, x2, y2]
 rw [hsz, x1, y1]
 cases hl2 : l2.length with
 | zero =>
  have h0 : l2 = [] := List.length_eq_zero_iff.1 hl2
  subst h0
  simp only [isSl, if_true]
  exact ⟨_, s, rfl, hs0, .inl ⟨trivial, rfl⟩, .refl _ _, hfr⟩
 | succ m =>
  rw [hl2] at hb hbz
  have q2 : Nat.ble (0 + (m + 1)) pow48 = true := by rw [Nat.ble_eq]; omega
  have q3 : Nat.ble ((0 + (m + 1) + (0 + (m + 1)) / 4 + 600) * ei.bytes) pow48 = true := by rw [Nat.ble_eq, Nat.zero_add]; exact hb
  simp only [List.length_nil, q2, q3, Bool.and_self, if_true]
  simp only [appendC, List.flatMap_nil, List.nil_append, Nat.zero_add]
  have hso : So E (growA s s.h E.z (m + 1) (l2.flatMap E.f)).2 (growA s s.h E.z (m + 1) (l2.flatMap E.f)).1 l2 := by
   refine .inr ⟨s.nx, s.nc, m + 1, PT.setAll .nil 0 (l2.flatMap E.f), rfl, by rw [E.flat_len, hl2], by simp [growA], ?_⟩
   refine getAll_of (by rw [E.flat_len, hl2]) fun i hi => ?_
   rw [PT.get_setAll, if_pos (by rw [E.flat_len, hl2]; omega)]
   simp
  refine ⟨_, _, rfl, hso.sl, .inr ⟨hso, fun c hc => ?_⟩, ⟨fun c o hc ho => ?_, by simp [growA], rfl⟩, (growA_gro hfr (fun _ h => h) _ _ _).1⟩
  ·have : c = s.nx := by simpa [growA, blkOf] using hc
   rw [this]; exact hfr _ (Nat.le_refl _)
  ·have : c ≠ s.nx := by rintro rfl; rw [hfr _ (Nat.le_refl _)] at ho; simp at ho
   simp [growA, PT.get_set, this]
   exact ho
end
end Go.Eng

namespace Go.Eng
noncomputable section
variable {P : Program} {D : Tab} {α : Type}
theorem makeSlice_of {s : St} {t et : TypeId} {ti ei : TyI} {zv : AV} {k k' : IntKind} {n m : Int} (hti : D.ty.get t = some ti) (hd : ti.d = .slice et) (hei : D.ty.get et = some ei) (hzv : ei.zero = some zv) (hzl : zv.cells.length = ei.size)
  (h0 : 0 ≤ n) (h1 : n ≤ m) (h2 : m ≤ 281474976710656) (hb : ei.bytes * m.toNat ≤ pow48) (hfr : Fr s) :
  ∃ s', makeSliceA D s t (.int k n) (.int k' m) = some (.slice s.nx 0 n.toNat (.exact m.toNat), s') ∧ NewO s (cellsO (zeros zv.cells m.toNat)) s.nx s' := by
 have hzb : Nat.beq zv.cells.length ei.size = true := by rw [hzl, Nat.beq_refl]
 have q1 : Nat.ble (ei.bytes * m.toNat) pow48 = true := by rw [Nat.ble_eq]; exact hb
 refine ⟨_, ?_, rfl, rfl, hfr⟩
 simp only [makeSliceA, hti, hd, hei, hzv]
 rw [if_pos (by simp [h0, h1, h2, q1, hzb])]
 rfl
theorem zeros_len (z : List AV) : ∀ n : Nat, (zeros z n).length = n * z.length
 | 0 => by simp [zeros]
 | n + 1 => by simp only [zeros, List.length_append, zeros_len z n, Nat.add_mul]; omega
end
end Go.Eng

