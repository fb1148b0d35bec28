/-
  Sorting: the library's contract (elements of k cells), as a call of states.
  Maps, as lists of keys and values.
  Texts in order; calls whose end is said anew.
  Slices of one's own: many at once, a part written anew, parts of them.
  Parts of a slice of one's own, and a part of one element written anew.
  Outcomes that differ in the numbers of new blocks only come to one.
  Outcomes that differ in the numbers of new blocks only come to one: the calls.
  Sorting in place, in plain text: places, exchanges, parts that are put in another order.
  Parts of a slice are written at once; what is cleared; neighbours that are alike.
  Parts of slices that have been handed in.
  Sorting that leaves equals in their order, in plain text.
  Loops over functions: what a function hands on, one by one.
  Many elements put to a slice that has none and no room.
-/
import Derived.Test.YthjagnpghdcbcaaGreatDoorW13to14
import Derived.Test.YthjagnpghdcbcaaGreatDoorEng34
import Derived.Shelf.SlSortCmp.NoneTotal
import Derived.Test.YthjagnpghdcbcaaGreatDoorW8to12
namespace Go.Eng
open Go.Proofs
noncomputable section
variable {P : Program} {D : Tab}
theorem Kept.refl (w : World) : Kept w w := ⟨rfl, rfl, Nat.le_refl _, fun _ _ => rfl, rfl, Nat.le_refl _⟩
theorem Kept.trans {w w1 w2 : World} (h : Kept w w1) (h' : Kept w1 w2) : Kept w w2 :=
 ⟨h'.os.trans h.os, h'.out.trans h.out, Nat.le_trans h.size h'.size, fun r hr => (h'.keep r (Nat.lt_of_lt_of_le hr h.size)).trans (h.keep r hr), h'.tape.trans h.tape, Nat.le_trans h.dr h'.dr⟩
theorem Kept.grown {w w' : World} (h : Kept w w') : ∃ q os', w' = Sort.grow (w.drewN q) os' := by
 refine ⟨w'.drawn - w.drawn, w'.heap.extract w.heap.size w'.heap.size, ?_⟩
 have hh : w'.heap = w.heap ++ w'.heap.extract w.heap.size w'.heap.size := by
  apply Array.ext_getElem?
  intro i
  by_cases hi : i < w.heap.size
  ·rw [h.keep i hi, Array.getElem?_append_left hi]
  ·rw [Array.getElem?_append_right (by omega), Array.getElem?_extract]
   have := h.size
   split
   ·congr 1; omega
   ·rw [Array.getElem?_eq_none_iff]; omega
 have hd := h.dr
 have h1 := h.os
 have h2 := h.out
 have h3 := h.tape
 obtain ⟨hp, tp, dr, o, out⟩ := w
 obtain ⟨hp', tp', dr', o', out'⟩ := w'
 simp only at *
 subst h1 h2 h3
 unfold Sort.grow World.drewN
 simp only [World.mk.injEq, and_true, true_and]
 exact ⟨hh, by omega⟩
theorem Kept.grow (w : World) (q : Nat) (os : Array Obj) : Kept w (Sort.grow (w.drewN q) os) :=
 ⟨rfl, rfl, by simp [Sort.grow, World.drewN], fun r hr => by simp [Sort.grow, World.drewN, Array.getElem?_append_left hr], rfl, by simp [Sort.grow, World.drewN]⟩
theorem Rel.kept {φ : Phi} {s : St} {w w' : World} (h : Rel φ s w) (k : Kept w w') : Rel φ s w' :=
 ⟨fun b o hb => by
  rcases h.obj b o hb with hv | ⟨r, sh, ro, h1, h2, h3⟩
  ·exact .inl hv
  ·have := (Array.getElem?_eq_some_iff.1 h2).1
   exact .inr ⟨r, sh, ro, h1, by rw [k.keep r this]; exact h2, h3⟩, h.inj, h.fresh, h.freshc, h.glob, h.gnx, h.facts⟩
theorem Stp.kept {w w' : World} (φ : Phi) (s : St) (k : Kept w w') : Stp φ s w φ s w' :=
 ⟨Phi.le.rfl' φ, fun b _ sh h h' => .inr ⟨b, sh, h, h'⟩, fun b _ sh h h' => .inr ⟨b, sh, h, h'⟩, fun r hr _ => k.keep r hr, k.size, k.os, k.out, k.tape, Nat.le_refl _, Nat.le_refl _, fun _ _ => rfl, fun r arr e fz hx => by
  have := (Array.getElem?_eq_some_iff.1 hx).1
  exact ⟨arr, fz, by rw [k.keep r this]; exact hx, rfl⟩, k.dr⟩
def PT.fmap {α β : Type} (f : α → Option β) : PT α → PT β
 | .nil => .nil
 | .nd l v r => .nd (fmap f l) (v.bind f) (fmap f r)
theorem PT.get_fmap {α β : Type} (f : α → Option β) : ∀ (t : PT α) (k : Nat), (PT.fmap f t).get k = (t.get k).bind f
 | .nil, k => by simp [PT.fmap]
 | .nd l v r, 0 => by simp [PT.fmap]
 | .nd l v r, k + 1 => by
  simp only [PT.fmap, PT.get_succ]
  split
  ·exact PT.get_fmap f l _
  ·exact PT.get_fmap f r _
def rom1 : AObj → Option AObj
 | .cells c n _ => some (.cells c n (some (0, 0)))
 | _ => none
def romS (s : St) (b : Nat) : St := { s with h := PT.fmap rom1 (s.h.del b) }
theorem romS_get {s : St} {b c : Nat} {o : AObj} (h : (romS s b).h.get c = some o) : c ≠ b ∧ ∃ d n tl, s.h.get c = some (.cells d n tl) ∧ o = .cells d n (some (0, 0)) := by
 simp only [romS, PT.get_fmap, PT.get_del] at h
 by_cases e : c = b
 ·rw [if_pos e] at h; simp at h
 ·rw [if_neg e] at h
  refine ⟨e, ?_⟩
  cases hx : s.h.get c with
  | none => rw [hx] at h; simp at h
  | some ob =>
   rw [hx] at h
   cases ob <;> simp [rom1] at h
   exact ⟨_, _, _, rfl, h.symm⟩
theorem romS_rd {s : St} {b c o : Nat} {cs : List AV} (hc : c ≠ b) (h : Rd s c o cs) : Rd (romS s b) c o cs := by
 obtain ⟨d, n, tl, h1, h2, h3⟩ := h
 exact ⟨d, n, _, by simp only [romS, PT.get_fmap, PT.get_del]; rw [if_neg hc, h1]; rfl, h2, h3⟩
theorem romS_own (s : St) (b c : Nat) : ownB (romS s b).h c = false := by
 unfold ownB
 split
 ·rfl
 ·rename_i o hno ho
  obtain ⟨_, d, n, tl, _, rfl⟩ := romS_get ho
  exact absurd rfl (hno _ _ _)
 ·rfl
theorem Rel.rom {φ : Phi} {s : St} {w W : World} (h : Rel φ s w) {b r sh : Nat} (hb : (s.h.get b).isSome = true) (hr : φ.blk b = some (r, sh)) (hW : ∀ r', r' < w.heap.size → r' ≠ r → W.heap[r']? = w.heap[r']?) : Rel φ (romS s b) W where
 obj := fun c o hc => by
  obtain ⟨hne, d, n, tl, h1, rfl⟩ := romS_get hc
  obtain ⟨r', sh', arr, e, fz, g1, g2, g3, _⟩ := h.cells h1
  refine .inr ⟨r', sh', .cells arr e fz, g1, ?_, .rom g3⟩
  have hlt := (Array.getElem?_eq_some_iff.1 g2).1
  rw [hW r' hlt ?_]
  ·exact g2
  ·rintro rfl
   exact hne (h.inj c b r' sh' sh (by simp [h1]) hb g1 hr)
 inj := fun c c' r' s1 s2 hc hc' e e' => by
  obtain ⟨o, ho⟩ := Option.isSome_iff_exists.1 hc
  obtain ⟨o', ho'⟩ := Option.isSome_iff_exists.1 hc'
  obtain ⟨_, _, _, _, g, _⟩ := romS_get ho
  obtain ⟨_, _, _, _, g', _⟩ := romS_get ho'
  exact h.inj c c' r' s1 s2 (by simp [g]) (by simp [g']) e e'
 fresh := h.fresh
 freshc := h.freshc
 glob := h.glob
 gnx := h.gnx
 facts := h.facts
theorem CallsA.reads {g : FuncId} {args : List AV} {s : St} {x : AV} {u : Value} (h : CallsA P g args s fun v _ => v = x) (hx : ∀ φ v, VR φ x v → v = u) (ho : ∀ b, ownB s.h b = false) {φ : Phi} {vals : List Value} {w : World} (hr : Rel φ s w) (hv : VRs φ args vals) :
  Calls P g vals.toArray w fun e w' => e = .returned u ∧ ∃ q os', w' = Sort.grow (w.drewN q) os' := by
 intro cs
 obtain ⟨v, s', rfl, φ', u', w', fr, q1, q2, q3, q4, q5, q6⟩ := h φ vals w cs hr hv
 have := hx φ' u' q3
 subst this
 exact ⟨.returned u', w', fr, ⟨rfl, Kept.grown ⟨q1.os, q1.out, q1.size, fun r hr => q1.keep r hr fun b sh hb => by rw [ho] at hb; simp at hb, q1.tape, q1.dr⟩⟩, q4, q5, q6⟩
def El {β : Type} (φ : Phi) (E : Enc β) (ok : β → Prop) : Type := { p : β × List Value // VRs φ (E.f p.1) p.2 ∧ ok p.1 }
theorem swo_el {β α : Type} {cf : β → β → Int} (f : α → β) (hO : Sort.SWO (ltOf cf)) : Sort.SWO (ltOf fun x y : α => cf (f x) (f y)) :=
 ⟨fun x => hO.irrefl (f x), fun x y z => hO.trans (f x) (f y) (f z), fun x y z => hO.ntrans (f x) (f y) (f z)⟩
theorem list_choose {α β : Type} {R : α → β → Prop} : ∀ {l : List α}, (∀ x, x ∈ l → ∃ y, R x y) → ∃ l' : List β, l'.length = l.length ∧ ∀ i (h : i < l.length) (h' : i < l'.length), R l[i] l'[i]
 | [], _ => ⟨[], rfl, fun i h => by simp at h⟩
 | x :: r, h => by
  obtain ⟨y, hy⟩ := h x (List.mem_cons_self ..)
  obtain ⟨l', h1, h2⟩ := list_choose (l := r) fun z hz => h z (List.mem_cons_of_mem _ hz)
  refine ⟨y :: l', by simp [h1], fun i hi hi' => ?_⟩
  cases i with
  | zero => exact hy
  | succ i => exact h2 i (by simpa using hi) (by simpa using hi')
set_option maxHeartbeats 1000000 in
theorem CallsA.sortK (hD : TabOk P D) {ρ : Shelf.Ren} (L : SlLaysF0.n6 P ρ) {β : Type} (E : Enc β) (aE : ∀ w, (isAgg (ρ.t 24)).run P w = .ok true w) (zE : ∀ w, (Go.sizeOf (ρ.t 24)).run P w = .ok E.z w) (h1 : ∀ x, ones (E.f x) = true)
  (ok : β → Prop) (cf : β → β → Int) (hO : Sort.SWO (ltOf cf)) {g : FuncId} {fi : FnI} (hg : D.fn.get g = some fi) {caps : List AV} {s : St} {b o n N : Nat} {cap : ACap} {c : PT AV} {tl : Option (Nat × Nat)} (hb : s.h.get b = some (.cells c N tl)) (hw : wr tl = true)
  {l : List β} (hn : l.length = n) (hN : o + n * E.z ≤ N) (hc : c.getAll o (n * E.z) = some (l.flatMap E.f)) (hsz : n < 4611686018427387904) (h0 : 0 < n) (hok : ∀ x, x ∈ l → ok x)
  (hcmp : ∀ s0, (∀ d o cs, d ≠ b → Rd s d o cs → Rd s0 d o cs) → ∀ x y, ok x → ok y → CallsA P g ([.agg (E.f x), .agg (E.f y)] ++ caps) s0 fun v _ => v = .int .i64 (cf x y)) :
  CallsA P (ρ.f 6) [.slice b o n cap, .func g [] caps] s fun v s' => v = .tuple [] ∧ ∃ l' : List β, l'.Perm l ∧ l'.Pairwise (fun x y => 0 ≤ cf y x) ∧ s' = { s with h := s.h.set b (.cells (c.setAll o (l'.flatMap E.f)) N tl) } := by
 intro φ vals w cs hr hv
 obtain ⟨_, _, _, _, _, _, _, heg⟩ := fnOf_call hD hg
 cases hv with
 | cons hv0 hv =>
 cases hv with
 | cons hv1 hv =>
 cases hv
 cases hv0 with
 | slice hbk hcap =>
 rename_i r sh cp hle
 cases hv1 with
 | func _ hf0 hf1 =>
 rename_i us0 cb
 cases hf0
 obtain ⟨r', sh', arr, ty, fz, q1, q2, q3, q4⟩ := hr.cells hb
 rw [hbk] at q1
 simp only [Option.some.injEq, Prod.mk.injEq] at q1
 obtain ⟨rfl, rfl⟩ := q1
 have hrlt : r < w.heap.size := (Array.getElem?_eq_some_iff.1 q2).1
 have hfz : fz = (0, 0) ∨ arr.size ≤ fz.1 := by
  rcases q4 with ⟨_, q4⟩ | ⟨_, _, _, _, _, _, q4 | q4⟩ | ⟨k, rfl⟩
  ·exact .inl q4
  ·exact .inl q4
  ·exact .inr q4.2
  ·simp [wr] at hw
 obtain ⟨us, u1, u2, u3⟩ := q3.list _ _ _ hN hc
 have hz := E.pos
 have hel : ∀ i, i < n → ∃ p : El φ E ok, l[i]? = some p.1.1 ∧ p.1.2 = (us.drop (i * E.z)).take E.z := by
  intro i hi
  have hi' : i < l.length := by omega
  refine ⟨⟨(l[i], (us.drop (i * E.z)).take E.z), ?_, hok _ (List.getElem_mem hi')⟩, List.getElem?_eq_getElem hi', rfl⟩
  have := (u1.drop (i * E.z)).take E.z
  rwa [E.flat_at l i hi'] at this
 have hne : Nonempty (El φ E ok) := let ⟨p, _⟩ := hel 0 h0; ⟨p⟩
 haveI : Inhabited (El φ E ok) := ⟨Classical.choice hne⟩
 obtain ⟨dl, d1, d2⟩ := list_choose (l := List.range n) (R := fun i (p : El φ E ok) => l[i]? = some p.1.1 ∧ p.1.2 = (us.drop (i * E.z)).take E.z) fun i hi => hel i (by simpa using hi)
 simp only [List.length_range] at d1
 have d2 : ∀ i (h : i < dl.length), l[i]? = some (dl[i]).1.1 ∧ (dl[i]).1.2 = (us.drop (i * E.z)).take E.z := fun i h => by
  have := d2 i (by simp; omega) h
  simpa using this
 have hdl : dl.map (fun p => p.1.1) = l := by
  apply List.ext_getElem?
  intro i
  rw [List.getElem?_map]
  by_cases hi : i < dl.length
  ·rw [(d2 i hi).1, List.getElem?_eq_getElem hi]; rfl
  ·rw [List.getElem?_eq_none (by omega), List.getElem?_eq_none (by omega)]; rfl
 let enc : El φ E ok → List Value := fun p => p.1.2
 have hk : ∀ x : El φ E ok, (enc x).length = E.z := fun x => by rw [← x.2.1.length]; exact E.len _
 have hone : ∀ x : El φ E ok, ∀ v ∈ enc x, v.oneCell' = true := fun x v hv => ones_ok (h1 _) x.2.1 v hv
 let d : Array (El φ E ok) := dl.toArray
 have hds : d.size = n := by simp [d, d1]
 have hflat : ∀ (e : Array (El φ E ok)) t, t < e.size * E.z → ∃ h : t / E.z < e.size, (Sort.flatK enc E.z e)[t]! = (enc e[t / E.z])[t % E.z]! := by
  intro e t ht
  have hlt : t / E.z < e.size := Nat.div_lt_of_lt_mul (by rwa [Nat.mul_comm] at ht)
  exact ⟨hlt, by rw [Sort.get_flatK _ _ _ _ ht, getElem!_pos e _ hlt]⟩
 have hat : ∀ t, t < n * E.z → arr[sh + o + t]? = some ((Sort.flatK enc E.z d)[t]!) := by
  intro t ht
  obtain ⟨hlt, e1⟩ := hflat d t (by rw [hds]; exact ht)
  rw [e1]
  have hm : t % E.z < E.z := Nat.mod_lt _ hz
  have hul : t < us.length := by omega
  have e2 : us[t]? = some (us[t]) := List.getElem?_eq_getElem hul
  rw [u3 t _ e2]
  congr 1
  have hd2 := (d2 (t / E.z) (by simpa [d] using hlt)).2
  have : enc d[t / E.z] = (us.drop (t / E.z * E.z)).take E.z := by simpa [enc, d] using hd2
  rw [this]
  have hdm : t / E.z * E.z + t % E.z = t := by rw [Nat.mul_comm]; exact Nat.div_add_mod t E.z
  have hlen : t % E.z < ((us.drop (t / E.z * E.z)).take E.z).length := by
   have := hk d[t / E.z]
   simp only [enc] at this
   rw [← (by simpa [d] using hd2 : (d[t / E.z]).1.2 = (us.drop (t / E.z * E.z)).take E.z), this]; exact hm
  rw [getElem!_pos ((us.drop (t / E.z * E.z)).take E.z) (t % E.z) hlen, List.getElem_take, List.getElem_drop]
  congr 1
  exact hdm.symm
 have hH : Sort.HoldsK enc E.z w r (sh + o) d := by
  intro j hj
  rw [Sort.size_flatK, hds] at hj
  refine ⟨?_, ?_⟩
  ·simp only [World.cell?, q2, Option.isSome_none, Bool.false_eq_true, if_false, id_eq]
   exact hat j hj
  ·simp only [World.frozen?, q2]
   have h3 := q3.1
   rcases hfz with rfl | h
   ·simp
   ·have : ¬ fz.1 ≤ sh + o + j := by omega
    simp [this]
 have hworld : ∀ m (dk : Array (El φ E ok)) os r', r' < w.heap.size → r' ≠ r → (Go.Proofs.sortWorldK enc E.z w r (sh + o) m dk os).heap[r']? = w.heap[r']? := by
  intro m dk os r' hr' hne
  unfold Go.Proofs.sortWorldK Sort.putRowK Sort.putRow Sort.mapBlock Sort.grow
  simp only [Sort.ahead]
  rw [Array.getElem?_append_left (by simpa using hr')]
  rw [Array.getElem?_modify, if_neg (Ne.symm hne)]
 have hcmp' : CmpLays P g cb.toArray enc E.z (fun x y : El φ E ok => cf x.1.1 y.1.1) r (sh + o) d.size w := by
  intro m os dk hdk x y
  have hrel := hr.rom (W := Go.Proofs.sortWorldK enc E.z w r (sh + o) m dk os) (by simp [hb]) hbk (hworld m dk os)
  have hcall := hcmp (romS s b) (fun d o cs hd h => romS_rd hd h) x.1.1 y.1.1 x.2.2 y.2.2
  have hvs : VRs φ (AV.agg (E.f x.1.1) :: AV.agg (E.f y.1.1) :: caps) (Value.agg (enc x).toArray :: Value.agg (enc y).toArray :: cb) := .cons (.agg x.2.1) (.cons (.agg y.2.1) hf1)
  have := CallsA.reads (u := .int .i64 (cf x.1.1 y.1.1)) hcall (fun φ v h => by cases h; rfl) (romS_own s b) hrel hvs
  simpa using this
 have hO' : Sort.SWO (ltOf fun x y : El φ E ok => cf x.1.1 y.1.1) := swo_el (fun x : El φ E ok => x.1.1) hO
 have hsort := AnyQ.slices_SortFunc L E.z aE zE enc hk hone (fun x y : El φ E ok => cf x.1.1 y.1.1) hO' g cb.toArray r (sh + o) cp d w heg hcmp' hH hrlt (by omega)
 rw [hds] at hsort
 obtain ⟨e, w', fr, ⟨rfl, d', m, os, hp, hs, rfl⟩, g1, g2, g3⟩ := hsort cs
 obtain ⟨p1, p2, p3⟩ := hp
 have hd's : d'.size = n := by rw [p1, hds]
 have hd'l : d'.toList.length = n := by simpa using hd's
 let l' := d'.toList.map fun p => p.1.1
 have hl'len : l'.length = n := by simp [l', hd's]
 have hperm : l'.Perm l := by
  have e1 : d'.extract 0 n = d' := by rw [← hd's]; exact Array.extract_size
  have e2 : d.extract 0 n = d := by rw [← hds]; exact Array.extract_size
  rw [e1, e2] at p3
  have := p3.map fun p => p.1.1
  simpa [l', d, hdl] using this
 have hpair : l'.Pairwise fun x y => 0 ≤ cf y x := by
  rw [List.pairwise_iff_getElem]
  intro i j hi hj hij
  have hi' : i < d'.size := by omega
  have hj' : j < d'.size := by omega
  have := hs i j (Nat.zero_le _) hij (by omega)
  rw [getElem!_pos d' _ hj', getElem!_pos d' _ hi'] at this
  simp only [ltOf, decide_eq_false_iff_not] at this
  simp only [l', List.getElem_map, Array.getElem_toList]
  omega
 let arr' := Sort.putCells id (sh + o) (Sort.flatK enc E.z d') arr
 have harr' : arr'.size = arr.size := by simp [arr', Sort.putCells]
 have hcells : CellsR φ sh (c.setAll o (l'.flatMap E.f)) N arr' := by
  refine ⟨by rw [harr']; exact q3.1, fun i a hi ha => ?_⟩
  rw [PT.get_setAll, E.flat_len, hl'len] at ha
  have hia : sh + i < arr.size := by have := q3.1; omega
  have hget : arr'[sh + i]? = some (if sh + o ≤ sh + i ∧ sh + i < sh + o + n * E.z then (Sort.flatK enc E.z d')[sh + i - (sh + o)]! else arr[sh + i]) := by
   simp only [arr', Sort.putCells, Array.getElem?_mapIdx, Array.getElem?_eq_getElem hia, Option.map_some, Sort.size_flatK, hd's, id_eq]
  by_cases hin : o ≤ i ∧ i < o + n * E.z
  ·rw [if_pos hin] at ha
   rw [if_pos (by omega)] at hget
   refine ⟨_, hget, ?_⟩
   obtain ⟨j, rfl⟩ : ∃ j, i = o + j := ⟨i - o, by omega⟩
   have ej : sh + (o + j) - (sh + o) = j := by omega
   rw [ej]
   rw [Nat.add_sub_cancel_left] at ha
   have hj : j < d'.size * E.z := by rw [hd's]; omega
   obtain ⟨hlt, e1⟩ := hflat d' j hj
   rw [e1]
   have hjd : j / E.z * E.z + j % E.z = j := by rw [Nat.mul_comm]; exact Nat.div_add_mod j E.z
   have hm : j % E.z < E.z := Nat.mod_lt _ hz
   have := E.flat_get l' (j / E.z) (by omega) (j % E.z) hm
   rw [hjd, ha] at this
   have hx : l'[j / E.z]'(by omega) = (d'[j / E.z]).1.1 := by simp [l']
   rw [hx] at this
   obtain ⟨u, x1, x2⟩ := (d'[j / E.z]).2.1.get (j % E.z) a this.symm
   have : (enc d'[j / E.z])[j % E.z]! = u := by
    have hlt2 := (List.getElem?_eq_some_iff.1 x1).1
    have hv2 := (List.getElem?_eq_some_iff.1 x1).2
    rw [getElem!_pos (enc d'[j / E.z]) (j % E.z) hlt2]; exact hv2
   rw [this]; exact x2
  ·rw [if_neg hin] at ha
   rw [if_neg (by omega)] at hget
   obtain ⟨v, x1, x2⟩ := q3.2 i a hi ha
   rw [Array.getElem?_eq_getElem hia] at x1
   simp at x1
   subst x1
   exact ⟨_, hget, x2⟩
 have hown : ownB s.h b = true := by
  unfold ownB
  rw [hb]
  unfold wr at hw
  split at hw
  ·simp at hw
  ·rename_i hne
   split
   ·rename_i heq
    simp at heq
    exact absurd heq.2.2 (hne _)
   ·rfl
   ·rename_i heq; simp at heq
 have hput := hr.put_old (b := b) (r := r) (sh := sh) (o := .cells (c.setAll o (l'.flatMap E.f)) N tl) (ro := .cells arr' ty fz) hown hbk (by
   rcases q4 with ⟨rfl, rfl⟩ | ⟨k, z, cp, rfl, hk, hs, hf⟩ | ⟨k, rfl⟩
   ·exact .cells hcells
   ·exact .tail hcells hk (by rw [harr']; exact hs) (by rw [harr']; exact hf)
   ·simp [wr] at hw)
  (fun a0 e0 f0 hx => by rw [q2] at hx; simp at hx; obtain ⟨rfl, rfl, rfl⟩ := hx; exact ⟨_, _, rfl, harr'⟩)
 have hweq : Go.Proofs.sortWorldK enc E.z w r (sh + o) m d' os = Sort.grow (({ w with heap := w.heap.setIfInBounds r (.cells arr' ty fz) } : World).drewN m) os := by
  unfold Go.Proofs.sortWorldK Sort.putRowK Sort.putRow Sort.mapBlock Sort.ahead World.drewN
  congr 1
  simp only [World.mk.injEq, and_true]
  apply Array.ext_getElem?
  intro i
  rw [Array.getElem?_modify, Array.getElem?_setIfInBounds]
  by_cases e : r = i
  ·subst e
   simp only [if_true, q2, Option.map_some, if_pos hrlt, Sort.onCells, arr']
  ·rw [if_neg e, if_neg e]
 rw [hweq] at g1 g3
 have hkept := Kept.grow ({ w with heap := w.heap.setIfInBounds r (.cells arr' ty fz) } : World) m os
 refine ⟨.tuple [], _, ⟨rfl, l', hperm, hpair, rfl⟩, φ, .tuple #[], _, fr, hput.2.trans (Stp.kept φ _ hkept), hput.1.kept hkept, .tuple .nil, ?_, g2, g3⟩
 exact g1
theorem CallsA.sort0 {ρ : Shelf.Ren} (L : SlLaysF0.n6 P ρ) {x f : AV} {s : St} (hx : slLen x = some 0) : CallsA P (ρ.f 6) [x, f] s fun v s' => v = .tuple [] ∧ s' = s := by
 intro φ vals w cs hr hv
 cases hv with
 | cons hv0 hv =>
 cases hv with
 | cons hv1 hv =>
 cases hv
 rename_i vx fv
 have : ∃ p cap, vx = .slice p 0 cap := by
  cases hv0 with
  | nilslice => exact ⟨_, _, rfl⟩
  | slice h hc o n hn =>
   have : n = 0 := by simpa [slLen] using hx
   subst this
   exact ⟨_, _, rfl⟩
  | slice0 z a c hz => exact ⟨_, _, rfl⟩
  | _ => simp [slLen] at hx
 obtain ⟨p, cap, rfl⟩ := this
 obtain ⟨e, w', fr, ⟨rfl, rfl⟩, g1, g2, g3⟩ := AnyF.slices_SortFunc_none L p cap fv w cs
 exact ⟨.tuple [], s, ⟨rfl, rfl⟩, φ, .tuple #[], _, fr, Stp.refl _ _ _, hr, .tuple .nil, g1, g2, g3⟩
end
end Go.Eng

namespace Go.Eng
noncomputable section
set_option linter.unusedSectionVars false
variable {P : Program} {D : Tab} {κ : Type} [DecidableEq κ]
structure KeyE (D : Tab) (kt : TypeId) (κ : Type) [DecidableEq κ] where
 f : κ → AV
 ok : ∀ a, keyOk D kt (f a) = true
 eq : ∀ h a b, aeq D h depth kt (f a) (f b) = some (decide (a = b))
 same : ∀ a, geq (f a) (f a) = true
abbrev Ent (κ : Type) := List (κ × AV × Nat)
def encE (f : κ → AV) (es : Ent κ) : List (AV × AV × Nat) := es.map fun e => (f e.1, e.2.1, e.2.2)
def mget : List (κ × AV) → κ → Option AV
 | [], _ => none
 | (a, v) :: r, k => if k = a then some v else mget r k
def mset : List (κ × AV) → κ → AV → List (κ × AV)
 | [], k, v => [(k, v)]
 | (a, w) :: r, k, v => if k = a then (a, v) :: r else (a, w) :: mset r k v
def mdel : List (κ × AV) → κ → List (κ × AV)
 | [], _ => []
 | (a, w) :: r, k => if k = a then r else (a, w) :: mdel r k
theorem mset_keys (m : List (κ × AV)) (k : κ) (v : AV) : (mset m k v).map (·.1) = if k ∈ m.map (·.1) then m.map (·.1) else m.map (·.1) ++ [k] := by
 induction m with
 | nil => simp [mset]
 | cons p r ih =>
  obtain ⟨a, w⟩ := p
  simp only [mset]
  by_cases e : k = a
  ·subst e; simp
  ·rw [if_neg e]
   simp only [List.map_cons, ih, List.mem_cons, e, false_or]
   split <;> simp
theorem mset_nodup {m : List (κ × AV)} (h : (m.map (·.1)).Nodup) (k : κ) (v : AV) : ((mset m k v).map (·.1)).Nodup := by
 rw [mset_keys]
 split
 ·exact h
 ·rename_i hk
  rw [List.nodup_append]
  exact ⟨h, by simp, fun a ha b hb => by simp at hb; subst hb; rintro rfl; exact hk ha⟩
theorem mdel_keys_sub (m : List (κ × AV)) (k : κ) : (mdel m k).Sublist m := by
 induction m with
 | nil => simp [mdel]
 | cons p r ih =>
  obtain ⟨a, w⟩ := p
  simp only [mdel]
  split
  ·exact List.sublist_cons_self _ _
  ·exact ih.cons_cons _
def kv (es : Ent κ) : List (κ × AV) := es.map fun e => (e.1, e.2.1)
def findM : Ent κ → κ → Nat → Option (Nat × AV)
 | [], _, _ => none
 | (a, v, _) :: r, k, i => if k = a then some (i, v) else findM r k (i + 1)
theorem findK_enc {kt : TypeId} (K : KeyE D kt κ) (h : PT AObj) (k : κ) : ∀ (es : Ent κ) (i : Nat), findK D h kt (K.f k) (encE K.f es) i = some (findM es k i)
 | [], i => rfl
 | (a, v, t) :: r, i => by
  simp only [encE, List.map_cons, findK, K.eq, findM]
  by_cases e : k = a
  ·subst e; simp [K.same]
  ·simp only [e, decide_false, if_false]
   exact findK_enc K h k r (i + 1)
theorem findM_get : ∀ (es : Ent κ) (k : κ) (i : Nat), (findM es k i).map (·.2) = mget (kv es) k
 | [], _, _ => rfl
 | (a, v, t) :: r, k, i => by
  simp only [findM, kv, List.map_cons, mget]
  by_cases e : k = a
  ·simp [e]
  ·simp only [e, if_false]; exact findM_get r k (i + 1)
theorem findM_set : ∀ (es : Ent κ) (k : κ) (i j : Nat) (w v : AV), findM es k i = some (j, w) → i ≤ j ∧ ∃ es' : Ent κ, ∀ f : κ → AV, setVal (encE f es) (j - i) v = encE f es' ∧ kv es' = mset (kv es) k v ∧ es'.map (·.2.2) = es.map (·.2.2)
 | [], _, _, _, _, _, h => by simp [findM] at h
 | (a, x, t) :: r, k, i, j, w, v, h => by
  simp only [findM] at h
  by_cases e : k = a
  ·rw [if_pos e] at h
   simp only [Option.some.injEq, Prod.mk.injEq] at h
   obtain ⟨rfl, rfl⟩ := h
   refine ⟨Nat.le_refl _, (a, v, t) :: r, fun f => ⟨?_, ?_, rfl⟩⟩
   ·rw [Nat.sub_self]; rfl
   ·simp [kv, mset, e]
  ·rw [if_neg e] at h
   obtain ⟨h1, es', h2⟩ := findM_set r k (i + 1) j w v h
   refine ⟨by omega, (a, x, t) :: es', fun f => ⟨?_, ?_, ?_⟩⟩
   ·obtain ⟨m, hm⟩ : ∃ m, j - i = m + 1 := ⟨j - i - 1, by omega⟩
    have hm' : j - (i + 1) = m := by omega
    have := (h2 f).1
    rw [hm'] at this
    rw [hm]
    simp only [encE, List.map_cons, setVal]
    simp only [encE] at this
    rw [this]
   ·have := (h2 f).2.1
    simp only [kv, List.map_cons, mset] at this ⊢
    rw [if_neg e, this]
   ·have := (h2 f).2.2
    simp only [List.map_cons, this]
theorem findM_del : ∀ (es : Ent κ) (k : κ) (i j : Nat) (w : AV), findM es k i = some (j, w) → i ≤ j ∧ ∃ es' : Ent κ, ∀ f : κ → AV, eraseAt (encE f es) (j - i) = encE f es' ∧ kv es' = mdel (kv es) k ∧ (es'.map (·.2.2)).Sublist (es.map (·.2.2))
 | [], _, _, _, _, h => by simp [findM] at h
 | (a, x, t) :: r, k, i, j, w, h => by
  simp only [findM] at h
  by_cases e : k = a
  ·rw [if_pos e] at h
   simp only [Option.some.injEq, Prod.mk.injEq] at h
   obtain ⟨rfl, rfl⟩ := h
   refine ⟨Nat.le_refl _, r, fun f => ⟨?_, ?_, List.sublist_cons_self _ _⟩⟩
   ·rw [Nat.sub_self]; rfl
   ·simp [kv, mdel, e]
  ·rw [if_neg e] at h
   obtain ⟨h1, es', h2⟩ := findM_del r k (i + 1) j w h
   refine ⟨by omega, (a, x, t) :: es', fun f => ⟨?_, ?_, ?_⟩⟩
   ·obtain ⟨m, hm⟩ : ∃ m, j - i = m + 1 := ⟨j - i - 1, by omega⟩
    have hm' : j - (i + 1) = m := by omega
    have := (h2 f).1
    rw [hm'] at this
    rw [hm]
    simp only [encE, List.map_cons, eraseAt]
    simp only [encE] at this
    rw [this]
   ·have := (h2 f).2.1
    simp only [kv, List.map_cons, mdel] at this ⊢
    rw [if_neg e, this]
   ·exact (h2 f).2.2.cons_cons _
theorem mset_none {m : List (κ × AV)} {k : κ} (h : mget m k = none) (v : AV) : mset m k v = m ++ [(k, v)] := by
 induction m with
 | nil => rfl
 | cons p r ih =>
  obtain ⟨a, w⟩ := p
  simp only [mget] at h
  by_cases e : k = a
  ·simp [e] at h
  ·rw [if_neg e] at h
   simp only [mset, if_neg e, ih h, List.cons_append]
theorem mdel_none {m : List (κ × AV)} {k : κ} (h : mget m k = none) : mdel m k = m := by
 induction m with
 | nil => rfl
 | cons p r ih =>
  obtain ⟨a, w⟩ := p
  simp only [mget] at h
  by_cases e : k = a
  ·simp [e] at h
  ·rw [if_neg e] at h
   simp only [mdel, if_neg e, ih h]
def MapS (f : κ → AV) (s : St) (b : Nat) (m : List (κ × AV)) : Prop :=
 ∃ (es : Ent κ) (clock : Nat), s.h.get b = some (.map (encE f es) clock) ∧ kv es = m ∧ (m.map (·.1)).Nodup ∧ (es.map (·.2.2)).Nodup ∧ ∀ t, t ∈ es.map (·.2.2) → t < clock
theorem MapS.fwd {f : κ → AV} {M : List Nat} {s s' : St} {b : Nat} {m : List (κ × AV)} (h : MapS f s b m) (hf : Frw M s s') (hb : b ∉ M) : MapS f s' b m := by
 obtain ⟨es, clock, h1, h2⟩ := h
 exact ⟨es, clock, hf.1 b _ hb h1, h2⟩
theorem MapS.ext {f : κ → AV} {s s' : St} {b : Nat} {m : List (κ × AV)} (h : MapS f s b m) (hf : Frw [] s s') : MapS f s' b m := h.fwd hf (by simp)
theorem MapS.there {f : κ → AV} {s : St} {b : Nat} {m : List (κ × AV)} (h : MapS f s b m) : s.h.get b ≠ none := by
 obtain ⟨es, clock, h1, _⟩ := h
 rw [h1]; simp
theorem MapS.new {f : κ → AV} {s s' : St} {b : Nat} (h : NewO s mapO b s') : MapS f s' b [] :=
 ⟨[], 0, h.get, rfl, by simp, by simp, by simp⟩
theorem MapS.lookup {t kt et : TypeId} {ti ei : TyI} (K : KeyE D kt κ) {s : St} {b : Nat} {m : List (κ × AV)} (h : MapS K.f s b m) (ht : D.ty.get t = some ti) (hd : ti.d = .map kt et) (he : D.ty.get et = some ei) {z : AV} (hz : ei.zero = some z) (k : κ) :
  lookupA D s t (.map b) (K.f k) false = some ((mget m k).getD z) ∧ lookupA D s t (.map b) (K.f k) true = some (.tuple [(mget m k).getD z, .bool (mget m k).isSome]) := by
 obtain ⟨es, clock, h1, rfl, _⟩ := h
 obtain ⟨d, sz, by', ze, he'⟩ := ti
 simp only at hd
 subst hd
 have hf := findM_get es k 0
 simp only [lookupA, ht, K.ok, Bool.not_true, Bool.false_eq_true, if_false, entriesA, h1, findK_enc]
 cases hx : findM es k 0 with
 | none =>
  rw [hx] at hf
  simp only [Option.map_none] at hf
  simp [← hf, he, hz]
 | some p =>
  obtain ⟨i, v⟩ := p
  rw [hx] at hf
  simp only [Option.map_some] at hf
  simp [← hf]
def MapW (s : St) (b : Nat) (s' : St) : Prop := Frw [b] s s' ∧ s'.nx = s.nx ∧ s'.nc = s.nc ∧ ∀ c, c ≠ b → s'.h.get c = s.h.get c
theorem mapW_set (s : St) (b : Nat) (o : AObj) : MapW s b { s with h := s.h.set b o } :=
 ⟨⟨fun c o hc ho => by simp only [PT.get_set]; rw [if_neg (by simpa using hc)]; exact ho, Nat.le_refl _, rfl⟩, rfl, rfl, fun c hc => by simp [PT.get_set, hc]⟩
theorem MapW.fr {s s' : St} {b : Nat} (h : MapW s b s') (hf : Fr s) (hb : s.h.get b ≠ none) : Fr s' := hf.wr hb h.2.1 h.2.2.2
theorem MapS.set {t kt et : TypeId} {ti : TyI} (K : KeyE D kt κ) {s : St} {b : Nat} {m : List (κ × AV)} (h : MapS K.f s b m) (ht : D.ty.get t = some ti) (hd : ti.d = .map kt et) (k : κ) (v : AV) :
  ∃ s', mapUpdA D s t (.map b) (K.f k) v = some s' ∧ MapS K.f s' b (mset m k v) ∧ MapW s b s' := by
 obtain ⟨es, clock, h1, rfl, h2, h3, h4⟩ := h
 obtain ⟨d, sz, by', ze, he'⟩ := ti
 simp only at hd
 subst hd
 have hf := findM_get es k 0
 cases hx : findM es k 0 with
 | none =>
  rw [hx] at hf
  simp only [Option.map_none] at hf
  refine ⟨_, by simp only [mapUpdA, ht, K.ok, Bool.not_true, Bool.false_eq_true, if_false, h1, findK_enc, hx]; rfl, ⟨es ++ [(k, v, clock)], clock + 1, by simp [encE], ?_, mset_nodup h2 k v, ?_, ?_⟩, mapW_set _ _ _⟩
  ·rw [mset_none hf.symm]; simp [kv]
  ·simp only [List.map_append, List.map_cons, List.map_nil]
   rw [List.nodup_append]
   exact ⟨h3, by simp, fun a ha c hc => by simp at hc; subst hc; have := h4 a ha; omega⟩
  ·intro t ht
   simp only [List.map_append, List.map_cons, List.map_nil, List.mem_append, List.mem_singleton] at ht
   rcases ht with ht | ht
   ·have := h4 t ht; omega
   ·omega
 | some p =>
  obtain ⟨i, w⟩ := p
  obtain ⟨_, es', he⟩ := findM_set es k 0 i w v hx
  obtain ⟨e1, e2, e3⟩ := he K.f
  rw [Nat.sub_zero] at e1
  refine ⟨_, by simp only [mapUpdA, ht, K.ok, Bool.not_true, Bool.false_eq_true, if_false, h1, findK_enc, hx]; rfl, ⟨es', clock, by simp [e1], e2, mset_nodup h2 k v, by rw [e3]; exact h3, by rw [e3]; exact h4⟩, mapW_set _ _ _⟩
theorem MapS.del {t kt et : TypeId} {ti : TyI} (K : KeyE D kt κ) {s : St} {b : Nat} {m : List (κ × AV)} (h : MapS K.f s b m) (ht : D.ty.get t = some ti) (hd : ti.d = .map kt et) (k : κ) :
  ∃ s', deleteA D s t (.map b) (K.f k) = some (.tuple [], s') ∧ MapS K.f s' b (mdel m k) ∧ MapW s b s' := by
 obtain ⟨es, clock, h1, rfl, h2, h3, h4⟩ := h
 obtain ⟨d, sz, by', ze, he'⟩ := ti
 simp only at hd
 subst hd
 have hf := findM_get es k 0
 cases hx : findM es k 0 with
 | none =>
  rw [hx] at hf
  simp only [Option.map_none] at hf
  refine ⟨_, by simp only [deleteA, ht, K.ok, if_true, h1, findK_enc, hx]; rfl, ⟨es, clock, by simp, by rw [mdel_none hf.symm], by rw [mdel_none hf.symm]; exact h2, h3, h4⟩, mapW_set _ _ _⟩
 | some p =>
  obtain ⟨i, w⟩ := p
  obtain ⟨_, es', he⟩ := findM_del es k 0 i w hx
  obtain ⟨e1, e2, e3⟩ := he K.f
  rw [Nat.sub_zero] at e1
  refine ⟨_, by simp only [deleteA, ht, K.ok, if_true, h1, findK_enc, hx]; rfl, ⟨es', clock, by simp [e1], e2, ?_, h3.sublist e3, fun t ht => h4 t (e3.subset ht)⟩, mapW_set _ _ _⟩
  exact h2.sublist ((mdel_keys_sub _ _).map _)
theorem MapS.len {f : κ → AV} {t kt et : TypeId} {ti : TyI} {s : St} {b : Nat} {m : List (κ × AV)} (h : MapS f s b m) (ht : D.ty.get t = some ti) (hd : ti.d = .map kt et) : lenA D s t (.map b) = some (.int .i64 (m.length : Nat)) := by
 obtain ⟨es, clock, h1, rfl, _⟩ := h
 simp [lenA, ht, hd, h1, encE, kv]
def IterS (f : κ → AV) (s : St) (it b : Nat) (m rem : List (κ × AV)) : Prop :=
 ∃ (es : Ent κ) (clock : Nat) (seen : List Nat), s.h.get b = some (.map (encE f es) clock) ∧ kv es = m ∧ (∀ t, t ∈ es.map (·.2.2) → t < clock) ∧ (es.map (·.2.2)).Nodup ∧ s.h.get it = some (.iter (some b) clock seen clock) ∧ kv (es.filter fun e => !rmBorn seen e.2.2) = rem
theorem IterS.fwd {f : κ → AV} {M : List Nat} {s s' : St} {it b : Nat} {m rem : List (κ × AV)} (h : IterS f s it b m rem) (hf : Frw M s s') (hb : b ∉ M) (hi : it ∉ M) : IterS f s' it b m rem := by
 obtain ⟨es, clock, seen, h1, h2, h3, h4, h5, h6⟩ := h
 exact ⟨es, clock, seen, hf.1 b _ hb h1, h2, h3, h4, hf.1 it _ hi h5, h6⟩
theorem IterS.ext {f : κ → AV} {s s' : St} {it b : Nat} {m rem : List (κ × AV)} (h : IterS f s it b m rem) (hf : Frw [] s s') : IterS f s' it b m rem := h.fwd hf (by simp) (by simp)
theorem MapS.range {f : κ → AV} {t kt et : TypeId} {ti : TyI} {s : St} {b : Nat} {m : List (κ × AV)} (h : MapS f s b m) (ht : D.ty.get t = some ti) (hd : ti.d = .map kt et) (hfr : Fr s) :
  ∃ it s', rangeA D s t (.map b) = some (.ptr it 0, s') ∧ IterS f s' it b m m ∧ Frw [] s s' ∧ Fr s' ∧ s.h.get it = none ∧ it = s.nx := by
 obtain ⟨es, clock, h1, rfl, _, h3, h4⟩ := h
 have hN : NewO s (.iter (some b) clock [] clock) s.nx (s.new (.iter (some b) clock [] clock)).2 := ⟨rfl, rfl, hfr⟩
 refine ⟨s.nx, _, by simp only [rangeA, ht, hd, h1]; rfl, ⟨es, clock, [], hN.fwd.1 b _ (by simp) h1, rfl, h4, h3, hN.get, ?_⟩, hN.fwd, hN.fr, hN.gone, rfl⟩
 rw [List.filter_eq_self.2]
 simp [rmBorn]
theorem rmBorn_append (a b : List Nat) (n : Nat) : rmBorn (a ++ b) n = (rmBorn a n || rmBorn b n) := by
 induction a with
 | nil => simp [rmBorn]
 | cons x r ih => simp [rmBorn, ih, Bool.or_assoc]
theorem IterS.next {f : κ → AV} {s : St} {it b : Nat} {m rem : List (κ × AV)} (h : IterS f s it b m rem) :
  ∃ l, nextA s (.ptr it 0) false = some l ∧ ∀ v s', (v, s') ∈ l → (v = .tuple [.bool false] ∧ s' = s ∧ rem = []) ∨
   ∃ a k x c, rem = a ++ (k, x) :: c ∧ v = .tuple [.bool true, f k, x] ∧ IterS f s' it b m (a ++ c) ∧ Frw [it] s s' ∧ s'.nx = s.nx ∧ s'.nc = s.nc ∧ ∀ c, c ≠ it → s'.h.get c = s.h.get c := by
 obtain ⟨es, clock, seen, h1, rfl, h3, h4, h5, rfl⟩ := h
 have hib : it ≠ b := by rintro rfl; rw [h1] at h5; simp at h5
 have hall : (!seen.isEmpty && !(encE f es).isEmpty && (encE f es).all fun e => Nat.ble clock e.2.2) = false := by
  cases hes : es with
  | nil => simp [encE]
  | cons e r =>
   have := h3 e.2.2 (by rw [hes]; simp)
   have hb : Nat.ble clock e.2.2 = false := by
    rw [← Bool.not_eq_true, Nat.ble_eq]; omega
   simp [encE, hb]
 have hold : oldOf seen clock (encE f es) = encE f (es.filter fun e => !rmBorn seen e.2.2) := by
  unfold oldOf
  rw [List.filter_eq_self.2]
  ·simp only [encE, List.filter_map]; rfl
  ·intro e he
   have he := (List.mem_filter.1 he).1
   simp only [encE, List.mem_map] at he
   obtain ⟨e0, h0, rfl⟩ := he
   have := h3 e0.2.2 (List.mem_map.2 ⟨e0, h0, rfl⟩)
   rw [Nat.blt_eq]; exact this
 have hnew : newOf seen clock (encE f es) = [] := by
  unfold newOf
  rw [List.filter_eq_nil_iff]
  intro e he
  have he := (List.mem_filter.1 he).1
  simp only [encE, List.mem_map] at he
  obtain ⟨e0, h0, rfl⟩ := he
  have := h3 e0.2.2 (List.mem_map.2 ⟨e0, h0, rfl⟩)
  show ¬ Nat.ble clock e0.2.2 = true
  rw [Nat.ble_eq]; omega
 refine ⟨_, by simp only [nextA, h5, h1, hall, Bool.false_eq_true, if_false]; rfl, fun v s' hm => ?_⟩
 rw [hold, hnew, List.append_nil] at hm
 rcases List.mem_append.1 hm with hm | hm
 ·split at hm
  ·rename_i he
   simp only [List.mem_singleton, Prod.mk.injEq] at hm
   refine .inl ⟨hm.1, hm.2, ?_⟩
   have : es.filter (fun e => !rmBorn seen e.2.2) = [] := by
    have := List.isEmpty_iff.1 he
    simpa [encE] using this
   rw [this]; rfl
  ·simp at hm
 ·obtain ⟨e1, g1, g2⟩ := List.mem_map.1 hm
  simp only [encE, List.mem_map] at g1
  obtain ⟨e, g1, rfl⟩ := g1
  obtain ⟨k, x, t⟩ := e
  simp only [stepTo, Prod.mk.injEq] at g2
  obtain ⟨rfl, rfl⟩ := g2
  obtain ⟨a, c, hac⟩ := List.append_of_mem g1
  refine .inr ⟨kv a, k, x, kv c, by rw [hac]; simp [kv], rfl, ⟨es, clock, seen ++ [t], ?_, rfl, h3, h4, by simp, ?_⟩, ⟨fun d o hd ho => ?_, Nat.le_refl _, rfl⟩, rfl, rfl, fun d hd => by simp [PT.get_set, hd]⟩
  ·simp only [PT.get_set]; rw [if_neg (Ne.symm hib)]; exact h1
  ·have e1 : (es.filter fun e => !rmBorn (seen ++ [t]) e.2.2) = (es.filter fun e => !rmBorn seen e.2.2).filter fun e => !Nat.beq t e.2.2 := by
    rw [List.filter_filter]
    congr 1
    funext e
    rw [rmBorn_append]
    simp [rmBorn, Bool.and_comm]
   have hnd : ((es.filter fun e => !rmBorn seen e.2.2).map (·.2.2)).Nodup := h4.sublist (List.filter_sublist.map _)
   rw [e1, hac]
   rw [hac] at hnd
   simp only [List.map_append, List.map_cons, List.nodup_append, List.nodup_cons, List.mem_cons] at hnd
   obtain ⟨n1, ⟨n2, n3⟩, n4⟩ := hnd
   have fa : a.filter (fun e => !Nat.beq t e.2.2) = a := by
    rw [List.filter_eq_self]
    intro e he
    have := n4 e.2.2 (List.mem_map.2 ⟨e, he, rfl⟩) t (.inl rfl)
    simp only [Bool.not_eq_true', ← Bool.not_eq_true, Nat.beq_eq]
    exact fun h => this h.symm
   have fc : c.filter (fun e => !Nat.beq t e.2.2) = c := by
    rw [List.filter_eq_self]
    intro e he
    simp only [Bool.not_eq_true', ← Bool.not_eq_true, Nat.beq_eq]
    rintro h
    exact n2 (List.mem_map.2 ⟨e, he, h.symm⟩)
   rw [List.filter_append, List.filter_cons, fa, fc]
   simp [kv]
  ·simp only [PT.get_set]; rw [if_neg (by simpa using hd)]; exact ho
end
end Go.Eng

namespace Go.Eng
noncomputable section
variable {P : Program} {D : Tab}
theorem bytesLt_cons {a b : UInt8} {x y : List UInt8} : bytesLt (a :: x) (b :: y) = true ↔ a.toNat < b.toNat ∨ (a.toNat = b.toNat ∧ bytesLt x y = true) := by
 simp only [bytesLt, Bool.or_eq_true, Bool.and_eq_true, Nat.blt_eq, Nat.beq_eq]
theorem bytesLt_irrefl : ∀ a : List UInt8, bytesLt a a = false
 | [] => rfl
 | a :: x => by
  rw [← Bool.not_eq_true, bytesLt_cons]
  rintro (h | ⟨_, h⟩)
  ·omega
  ·rw [bytesLt_irrefl x] at h; simp at h
theorem bytesLt_trans : ∀ {a b c : List UInt8}, bytesLt a b = true → bytesLt b c = true → bytesLt a c = true
 | _, [], _, h, _ => by cases ‹List UInt8› <;> simp [bytesLt] at h
 | _, _ :: _, [], _, h => by simp [bytesLt] at h
 | [], _ :: _, _ :: _, _, _ => rfl
 | a :: x, b :: y, c :: z, h, h' => by
  rw [bytesLt_cons] at *
  rcases h with h | ⟨h, h1⟩ <;> rcases h' with h' | ⟨h', h2⟩
  ·exact .inl (by omega)
  ·exact .inl (by omega)
  ·exact .inl (by omega)
  ·exact .inr ⟨by omega, bytesLt_trans h1 h2⟩
theorem bytesLt_total : ∀ {a b : List UInt8}, bytesLt a b = false → bytesLt b a = false → a = b
 | [], [], _, _ => rfl
 | [], _ :: _, h, _ => by simp [bytesLt] at h
 | _ :: _, [], _, h => by simp [bytesLt] at h
 | a :: x, b :: y, h, h' => by
  rw [← Bool.not_eq_true, bytesLt_cons, not_or, not_and] at h h'
  have e : a.toNat = b.toNat := by omega
  have e' : a = b := UInt8.toNat_inj.1 e
  have h1 : bytesLt x y = false := by
   rw [← Bool.not_eq_true]; exact h.2 e
  have h2 : bytesLt y x = false := by
   rw [← Bool.not_eq_true]; exact h'.2 e.symm
  rw [e', bytesLt_total h1 h2]
def sLt (a b : ByteArray) : Bool := bytesLt a.data.toList b.data.toList
theorem sLt_irrefl (a : ByteArray) : sLt a a = false := bytesLt_irrefl _
theorem sLt_trans {a b c : ByteArray} (h : sLt a b = true) (h' : sLt b c = true) : sLt a c = true := bytesLt_trans h h'
theorem ba_ext {a b : ByteArray} (h : a.data.toList = b.data.toList) : a = b := by
 obtain ⟨⟨a⟩⟩ := a
 obtain ⟨⟨b⟩⟩ := b
 simp at h
 rw [h]
theorem sLt_total {a b : ByteArray} (h : sLt a b = false) (h' : sLt b a = false) : a = b := ba_ext (bytesLt_total h h')
theorem sEq_eq (a b : ByteArray) : bytesEq a.data.toList b.data.toList = decide (a = b) := by
 rw [Bool.eq_iff_iff, bytesEq_iff, decide_eq_true_iff]
 exact ⟨ba_ext, fun h => by rw [h]⟩
def cmpS (a b : ByteArray) : Int := if sLt a b = true then -1 else if a = b then 0 else 1
abbrev SS := ByteArray × ByteArray
def ssLt (a b : SS) : Bool := if a.1 = b.1 then sLt a.2 b.2 else sLt a.1 b.1
theorem ssLt_irrefl (a : SS) : ssLt a a = false := by simp [ssLt, sLt_irrefl]
theorem ssLt_trans {a b c : SS} (h : ssLt a b = true) (h' : ssLt b c = true) : ssLt a c = true := by
 unfold ssLt at *
 by_cases e1 : a.1 = b.1
 ·rw [if_pos e1] at h
  by_cases e2 : b.1 = c.1
  ·rw [if_pos e2] at h'
   rw [if_pos (e1.trans e2)]
   exact sLt_trans h h'
  ·rw [if_neg e2] at h'
   rw [if_neg (by rw [e1]; exact e2), e1]
   exact h'
 ·rw [if_neg e1] at h
  by_cases e2 : b.1 = c.1
  ·rw [if_neg (by rw [← e2]; exact e1), ← e2]; exact h
  ·rw [if_neg e2] at h'
   have h3 := sLt_trans h h'
   have : ¬ a.1 = c.1 := by intro e; rw [e, sLt_irrefl] at h3; simp at h3
   rw [if_neg this]; exact h3
theorem ssLt_total {a b : SS} (h : ssLt a b = false) (h' : ssLt b a = false) : a = b := by
 unfold ssLt at *
 by_cases e : a.1 = b.1
 ·rw [if_pos e] at h
  rw [if_pos e.symm] at h'
  exact Prod.ext e (sLt_total h h')
 ·rw [if_neg e] at h
  rw [if_neg (Ne.symm e)] at h'
  exact absurd (sLt_total h h') e
theorem hsetS_own {s : St} {b : Nat} {cs : List AV} : Own (hsetS s b (cellsO cs)) b cs := by
 refine ⟨_, by simp only [hsetS, PT.get_set_same]; rfl, getAll_of rfl fun i hi => ?_⟩
 rw [PT.get_setAll, if_pos (by omega)]
 simp
theorem hsetS_fr {s : St} {b : Nat} {o : AObj} (h : Fr s) (hb : b < s.nx) : Fr (hsetS s b o) := fun c hc => by
 have hc : s.nx ≤ c := hc
 have : c ≠ b := by omega
 simp [hsetS, PT.get_set, this, h c hc]
theorem Bump.lt {s s' : St} {n : Nat} (h : Bump s n s') : s'.nx = s.nx + n := by obtain ⟨rfl, _⟩ := h; rfl
theorem Frw.gone {s s' : St} {M : List Nat} (h : Frw M s s') {c : Nat} (hc : s.h.get c ≠ Option.none) (hm : c ∉ M) : s'.h.get c ≠ Option.none := by
 cases e : s.h.get c with
 | none => exact absurd e hc
 | some o => rw [h.1 c o hm e]; simp
theorem MapS.entries {κ : Type} [DecidableEq κ] {f : κ → AV} {s : St} {b : Nat} {m : List (κ × AV)} (h : MapS f s b m) : ∃ l, entriesA s (.map b) = some l ∧ l.length = m.length := by
 obtain ⟨es, clock, h1, rfl, _⟩ := h
 exact ⟨encE f es, by simp only [entriesA, h1], by simp [encE, kv]⟩
def NoCells (s : St) (b : Nat) : Prop := ∀ c n tl, s.h.get b ≠ some (.cells c n tl)
theorem Sl.beside {α : Type} {E : Enc α} {s s' : St} {x : AV} {l : List α} {M : List Nat} (h : Sl E s x l) (hf : Frw M s s') (hM : ∀ c, c ∈ M → NoCells s c ∨ c ∉ blkOf x) : Sl E s' x l := by
 rcases h with h | ⟨b, o, n, cap, rfl, h2, h3⟩
 ·exact .inl h
 ·refine .inr ⟨b, o, n, cap, rfl, h2, h3.fwd hf fun hb => ?_⟩
  rcases hM b hb with h | h
  ·obtain ⟨c, n, tl, g, _⟩ := h3
   exact h _ _ _ g
  ·exact h (by simp [blkOf])
theorem So.there {α : Type} {E : Enc α} {s : St} {x : AV} {l : List α} (h : So E s x l) : ∀ c, c ∈ blkOf x → s.h.get c ≠ none := by
 rcases h with ⟨rfl, _⟩ | ⟨b1, k1, n1, c1, rfl, _, q3, _⟩
 ·simp [blkOf]
 ·intro c hc
  have : c = b1 := by simpa [blkOf] using hc
  rw [this, q3]; simp
theorem IterS.entry {κ : Type} [DecidableEq κ] {f : κ → AV} {s : St} {it b : Nat} {m rem : List (κ × AV)} (h : IterS f s it b m rem) :
  ∃ l, nextA s (.ptr it 0) false = some l ∧ ∀ v s', (v, s') ∈ l → (v = .tuple [.bool false] ∧ s' = s ∧ rem = []) ∨
   ∃ a k x c, rem = a ++ (k, x) :: c ∧ v = .tuple [.bool true, f k, x] ∧ IterS f s' it b m (a ++ c) ∧ Frw [it] s s' ∧ s'.nx = s.nx ∧ s'.nc = s.nc ∧ (∀ c, c ≠ it → s'.h.get c = s.h.get c) ∧ entryA s' (.ptr it 0) = some (.tuple [f k, x]) := by
 obtain ⟨l, h1, h2⟩ := h.next
 refine ⟨l, h1, fun v s' hm => ?_⟩
 rcases h2 v s' hm with h3 | ⟨a, k, x, c, e1, e2, e3, e4, e5, e6, e7⟩
 ·exact .inl h3
 ·refine .inr ⟨a, k, x, c, e1, e2, e3, e4, e5, e6, e7, ?_⟩
  obtain ⟨es, clock, seen, g1, g2, g3, g4, g5, g6⟩ := h
  have hib : it ≠ b := by rintro rfl; rw [g1] at g5; simp at g5
  have hl : ∃ e, e ∈ es ∧ (v, s') = stepTo s it b clock seen clock (f e.1, e.2.1, e.2.2) := by
   unfold nextA at h1
   simp only [g5, g1] at h1
   split at h1
   ·simp at h1
   ·simp only [Option.some.injEq] at h1
    rw [← h1] at hm
    rcases List.mem_append.1 hm with hm | hm
    ·split at hm
     ·simp only [List.mem_singleton, Prod.mk.injEq] at hm
      rw [e2] at hm
      simp at hm
     ·simp at hm
    ·obtain ⟨e, m1, m2⟩ := List.mem_map.1 hm
     have : e ∈ encE f es := by
      rcases List.mem_append.1 m1 with m1 | m1
      ·exact (List.mem_filter.1 (List.mem_filter.1 m1).1).1
      ·exact (List.mem_filter.1 (List.mem_filter.1 m1).1).1
     simp only [encE, List.mem_map] at this
     obtain ⟨e0, m3, rfl⟩ := this
     exact ⟨e0, m3, m2.symm⟩
  obtain ⟨⟨k0, x0, t0⟩, m1, m2⟩ := hl
  simp only [stepTo, Prod.mk.injEq] at m2
  obtain ⟨m2, rfl⟩ := m2
  rw [e2] at m2
  simp only [AV.tuple.injEq, List.cons.injEq, true_and, and_true] at m2
  obtain ⟨m3, rfl⟩ := m2
  rw [m3]
  have hlast : ∀ (l : List Nat) (n : Nat), lastN (l ++ [n]) = some n := by
   intro l n
   induction l with
   | nil => rfl
   | cons a r ih =>
    cases r with
    | nil => rfl
    | cons b r => simpa [lastN] using ih
  have hb' : (s.h.set it (AObj.iter (some b) clock (seen ++ [t0]) clock)).get b = some (.map (encE f es) clock) := by
   rw [PT.get_set, if_neg (Ne.symm hib)]; exact g1
  have hf : ∀ (es : Ent κ), (es.map (·.2.2)).Nodup → (k0, x, t0) ∈ es → findBorn (encE f es) t0 = some (.tuple [f k0, x]) := by
   intro es
   induction es with
   | nil => intro _ h; simp at h
   | cons e r ih =>
    intro hn hm
    obtain ⟨k1, x1, t1⟩ := e
    simp only [List.map_cons, List.nodup_cons] at hn
    simp only [encE, List.map_cons, findBorn]
    rcases List.mem_cons.1 hm with hm | hm
    ·simp only [Prod.mk.injEq] at hm
     obtain ⟨rfl, rfl, rfl⟩ := hm
     simp [Nat.beq_refl]
    ·have : t1 ≠ t0 := by
      rintro rfl
      exact hn.1 (List.mem_map.2 ⟨_, hm, rfl⟩)
     have hb : Nat.beq t1 t0 = false := by rw [← Bool.not_eq_true, Nat.beq_eq]; exact this
     rw [hb]
     exact ih hn.2 hm
  simp only [entryA, PT.get_set_same, hb', hlast, Nat.beq_refl, hf es g4 m1]
end
end Go.Eng

namespace Go.Eng
noncomputable section
variable {P : Program} {D : Tab} {α : Type}
theorem sliceCells_of {E : Enc α} {s : St} {x : AV} {l : List α} (h : Sl E s x l) : sliceCells s.h E.z x = some (l.flatMap E.f) ∧ avLen x = some l.length := by
 have hlen := h.len
 rcases h with ⟨h1, h2⟩ | ⟨b, o, n, cap, rfl, h1, c, k, tl, g1, g2, g3⟩
 ·rw [slZero_len h1] at hlen
  simp only [Option.some.injEq] at hlen
  have h0 : l = [] := List.length_eq_zero_iff.1 hlen.symm
  subst h0
  cases x <;> simp [slZero] at h1 <;> exact ⟨rfl, rfl⟩
 ·have hn : n = l.length := by simpa [slLen] using hlen
  refine ⟨?_, by rw [← hn]; rfl⟩
  have hb : Nat.ble (o + n * E.z) k = true := by rw [Nat.ble_eq, ← h1]; exact g2
  simp only [sliceCells, g1, hb, if_true]
  rw [← h1]; exact g3
theorem So.appendAll {E : Enc α} {s : St} {x y : AV} {l l2 : List α} {t et : TypeId} {ti ei : TyI} {zv : AV} (h : So E s x l) (hy : Sl E s y l2) (hti : D.ty.get t = some ti) (hd : ti.d = .slice et) (hei : D.ty.get et = some ei) (hsz : ei.size = E.z) (hzv : ei.zero = some zv) (hzl : zv.cells.length = E.z)
  (h1 : ∀ a, a ∈ l2 → ones (E.f a) = true) (hb : (l.length + l2.length + (l.length + l2.length) / 4 + 600) * ei.bytes ≤ pow48) (hbz : l.length + l2.length ≤ pow48) (hfr : Fr s) :
  ∃ v s', appendX D s t t x y = some (v, s') ∧ So E s' v (l ++ l2) ∧ Frw (blkOf x) s s' ∧ (∀ c, c ∈ blkOf v → c = s.nx ∨ (v = x ∧ s' = s ∧ c ∈ blkOf x)) ∧ Gro s s' := by
 obtain ⟨y1, y2⟩ := sliceCells_of hy
 obtain ⟨x1, x2⟩ := sliceCells_of h.sl
 have hzb : Nat.beq zv.cells.length ei.size = true := by rw [hzl, hsz, Nat.beq_refl]
 have hones : ones (l2.flatMap E.f) = true := by
  clear hy y1 y2 hb hbz
  induction l2 with
  | nil => rfl
  | cons a r ih =>
   have h2 := h1 a (List.mem_cons_self ..)
   have ih := ih fun b hb => h1 b (List.mem_cons_of_mem _ hb)
   rw [List.flatMap_cons]
   generalize E.f a = c at h2
   clear h1
   induction c with
   | nil => exact ih
   | cons u c ihc =>
    cases u <;> first | exact ihc (by simpa [ones] using h2) | simp [ones] at h2
 have hx0 : appendX D s t t x y = appendA D s t t x y := by
  rcases h with ⟨rfl, _⟩ | ⟨b, k, n, c, rfl, _⟩ <;> rfl
 rw [hx0]
 have hsq : isSeq ti.d = true := by rw [hd]; rfl
 simp only [appendA, hti, hd, hei, hzv, isSeq, hzb, Bool.and_self, if_true, appendB, x2, y2]
 rw [hsz, x1, y1]
 cases hl2 : l2.length with
 | zero =>
  have h0 : l2 = [] := List.length_eq_zero_iff.1 hl2
  subst h0
  have hsl : isSl x = true := by rcases h with ⟨rfl, _⟩ | ⟨b, k, n, c, rfl, _⟩ <;> rfl
  simp only [hsl, if_true]
  exact ⟨x, s, rfl, by rw [List.append_nil]; exact h, .refl _ _, fun c hc => .inr ⟨rfl, rfl, hc⟩, .refl hfr⟩
 | succ m =>
  rw [hl2] at hb hbz
  have q1 : Nat.ble ((l.length + (m + 1) + (l.length + (m + 1)) / 4 + 600) * ei.bytes) pow48 = true := by rw [Nat.ble_eq]; exact hb
  have q2 : Nat.ble (l.length + (m + 1)) pow48 = true := by rw [Nat.ble_eq]; exact hbz
  simp only [q1, q2, Bool.and_self, if_true]
  have hlen : (l ++ l2).length = l.length + (m + 1) := by rw [List.length_append, hl2]
  have fin : ∀ (h0 : PT AObj), (∀ c o, c ∉ blkOf x → s.h.get c = some o → h0.get c = some o) → (∀ c, s.h.get c = none → h0.get c = none) →
    So E (growA s h0 E.z (l.length + (m + 1)) (l.flatMap E.f ++ l2.flatMap E.f)).2 (growA s h0 E.z (l.length + (m + 1)) (l.flatMap E.f ++ l2.flatMap E.f)).1 (l ++ l2) ∧ Frw (blkOf x) s (growA s h0 E.z (l.length + (m + 1)) (l.flatMap E.f ++ l2.flatMap E.f)).2 ∧ Gro s (growA s h0 E.z (l.length + (m + 1)) (l.flatMap E.f ++ l2.flatMap E.f)).2 := by
   intro h0 hk hf0
   refine ⟨.inr ⟨s.nx, s.nc, l.length + (m + 1), PT.setAll .nil 0 (l.flatMap E.f ++ l2.flatMap E.f), rfl, by rw [E.flat_len, hlen], by simp [growA], ?_⟩, ⟨fun c o hc ho => ?_, by simp [growA], rfl⟩, growA_gro hfr hf0 _ _ _⟩
   ·rw [List.flatMap_append]
    refine getAll_of (by rw [List.length_append, E.flat_len, E.flat_len, hl2, ← Nat.add_mul]) fun i hi => ?_
    rw [PT.get_setAll, if_pos (by rw [List.length_append, E.flat_len, E.flat_len, hl2, ← Nat.add_mul]; omega)]
    simp
   ·have : c ≠ s.nx := by rintro rfl; rw [hfr _ (Nat.le_refl _)] at ho; simp at ho
    simp [growA, PT.get_set, this]
    exact hk c o hc ho
  rcases h with ⟨rfl, h2⟩ | ⟨b, k, n, c, rfl, g1, g2, g3⟩
  ·have h0 : l = [] := by
    cases l with
    | nil => rfl
    | cons a r =>
     have := congrArg List.length h2
     rw [E.flat_len] at this
     have hp := Nat.mul_pos (Nat.succ_pos r.length) E.pos
     rw [List.length_nil, List.length_cons] at this
     exact absurd this (Nat.ne_of_lt hp).symm
   subst h0
   have := fin s.h (fun c o _ ho => ho) (fun _ h => h)
   simp only [List.length_nil, Nat.zero_add, List.flatMap_nil, List.nil_append] at this ⊢
   exact ⟨_, _, rfl, this.1, this.2.1, fun c hc => .inl (by simpa [growA, blkOf] using hc), this.2.2⟩
  ·have hn : n = l.length := by
    rw [E.flat_len] at g1
    exact (Nat.eq_of_mul_eq_mul_right E.pos g1).symm
   subst hn
   have hpz := E.pos
   have := fin (s.h.del b) (fun c o hc ho => by
    have : c ≠ b := by simpa [blkOf] using hc
    rw [PT.get_del, if_neg this]; exact ho) (fun c hc => by rw [PT.get_del]; split <;> simp [hc])
   simp only [appendC, g2]
   rw [if_pos (by simp [hones, Nat.blt_eq, hpz])]
   exact ⟨_, _, rfl, this.1, this.2.1, fun c hc => .inl (by simpa [growA, blkOf] using hc), this.2.2⟩
end
end Go.Eng

namespace Go.Eng
noncomputable section
variable {P : Program} {D : Tab} {α : Type}
theorem splice_mid {A B C vs : List AV} {j : Nat} (hj : j + vs.length ≤ B.length) : splice (A ++ B ++ C) (A.length + j) vs = A ++ splice B j vs ++ C := by
 simp only [splice, List.append_assoc]
 rw [List.take_length_add_append, List.take_append_of_le_length (by omega), Nat.add_assoc, List.drop_length_add_append, List.drop_append_of_le_length (by omega)]
 simp only [List.append_assoc]
theorem Enc.flat_set (E : Enc α) {l : List α} {k : Nat} (hk : k < l.length) {j : Nat} {vs : List AV} {a : α} (hj : j + vs.length ≤ E.z) (ha : splice (E.f l[k]) j vs = E.f a) : splice (l.flatMap E.f) (k * E.z + j) vs = (l.set k a).flatMap E.f := by
 have e1 : l.flatMap E.f = (l.take k).flatMap E.f ++ E.f l[k] ++ (l.drop (k + 1)).flatMap E.f := by
  conv => lhs; rw [← List.take_append_drop k l, List.drop_eq_getElem_cons hk]
  rw [List.flatMap_append, List.flatMap_cons, List.append_assoc]
 have e2 : ((l.take k).flatMap E.f).length = k * E.z := by rw [E.flat_len, List.length_take, Nat.min_eq_left (by omega)]
 rw [e1, ← e2, splice_mid (by rw [E.len]; exact hj), ha, List.set_eq_take_append_cons_drop, if_pos hk, List.flatMap_append, List.flatMap_cons, List.append_assoc]
theorem So.ixsWr {E : Enc α} {s : St} {x : AV} {l : List α} (h : So E s x l) {z : Nat} (hz : z = E.z) {i : Int} {k : Nat} (hi : i = (k : Int)) (hk : k < l.length) {j : Nat} {vs : List AV} {a : α} (hv : ones vs = true) (hj : j + vs.length ≤ E.z) (ha : splice (E.f l[k]) j vs = E.f a) {K : Nat → Nat → Prop}
  (hK : ∀ b o s', blkOf x = [b] → wrN s (.ptr b (o + j)) vs = some s' → So E s' x (l.set k a) → Frw [b] s s' → s'.nx = s.nx → (∀ c, c ≠ b → s'.h.get c = s.h.get c) → K b o) : ixsK z x i K := by
 subst hz; subst hi
 have hlen := h.sl.len
 rcases h with ⟨rfl, h2⟩ | ⟨b, kk, n, c, rfl, g1, g2, g3⟩
 ·simp only [slLen, Option.some.injEq] at hlen
  omega
 ·have hn : n = l.length := by simpa [slLen] using hlen
  refine ⟨by omega, by simp only [hn]; omega, ?_⟩
  rw [mulS_eq, Int.toNat_natCast, Nat.zero_add]
  have hmul : (k + 1) * E.z ≤ n * E.z := Nat.mul_le_mul_right _ (by omega)
  rw [Nat.add_mul, Nat.one_mul] at hmul
  have hb : Nat.ble (k * E.z + j + vs.length) (n * E.z) = true := by rw [Nat.ble_eq]; omega
  refine hK b _ { s with h := s.h.set b (.cells (c.setAll (k * E.z + j) vs) (n * E.z) (some (kk, E.z))) } (by simp [blkOf]) ?_ (.inr ⟨b, kk, n, c.setAll (k * E.z + j) vs, rfl, by rw [E.flat_len, List.length_set, hn], by simp [PT.get_set_same], ?_⟩) ⟨fun d o hd hx => ?_, Nat.le_refl _, rfl⟩ rfl fun d hd => by simp [PT.get_set, hd]
  ·have hwr : wr (some (kk, E.z)) = true := by
    have := E.pos
    cases h : E.z with
    | zero => omega
    | succ => rfl
   simp only [wrN, writeAll, g2, hv, hb, hwr, Bool.and_self, if_true]
  ·rw [← E.flat_set hk hj ha]
   have hl : (splice (l.flatMap E.f) (k * E.z + j) vs).length = n * E.z := by
    simp only [splice, List.length_append, List.length_take, List.length_drop, g1]; omega
   refine getAll_of hl fun i hi => ?_
   obtain ⟨_, hg⟩ := PT.getAll_spec _ c 0 _ g3
   have hg' := hg i hi
   rw [Nat.zero_add] at hg' ⊢
   rw [PT.get_setAll]
   by_cases hin : k * E.z + j ≤ i ∧ i < k * E.z + j + vs.length
   ·rw [if_pos hin]
    simp only [splice]
    rw [List.append_assoc, List.getElem?_append_right (by simp only [List.length_take, g1]; omega), List.getElem?_append_left (by simp only [List.length_take, g1]; omega)]
    congr 1
    simp only [List.length_take, g1]; omega
   ·rw [if_neg hin, hg']
    simp only [splice]
    by_cases hlo : i < k * E.z + j
    ·rw [List.append_assoc, List.getElem?_append_left (by simp only [List.length_take, g1]; omega), List.getElem?_take_of_lt hlo]
    ·rw [List.getElem?_append_right (by simp only [List.length_append, List.length_take, g1]; omega)]
     simp only [List.length_append, List.length_take, List.getElem?_drop, g1]
     congr 1
     omega
  ·have : d ≠ b := by simpa using hd
   simp [PT.get_set, this, hx]
theorem Enc.flat_take (E : Enc α) {l : List α} {k : Nat} (hk : k ≤ l.length) : (l.take k).flatMap E.f = (l.flatMap E.f).take (k * E.z) := by
 have e : l.flatMap E.f = (l.take k).flatMap E.f ++ (l.drop k).flatMap E.f := by rw [← List.flatMap_append, List.take_append_drop]
 have h1 : ((l.take k).flatMap E.f).length = k * E.z := by rw [E.flat_len, List.length_take, Nat.min_eq_left hk]
 generalize (l.take k).flatMap E.f = A at *
 rw [e, ← h1, List.take_left]
theorem Enc.flat_drop (E : Enc α) {l : List α} {k : Nat} (hk : k ≤ l.length) : (l.drop k).flatMap E.f = (l.flatMap E.f).drop (k * E.z) := by
 have e : l.flatMap E.f = (l.take k).flatMap E.f ++ (l.drop k).flatMap E.f := by rw [← List.flatMap_append, List.take_append_drop]
 have h1 : ((l.take k).flatMap E.f).length = k * E.z := by rw [E.flat_len, List.length_take, Nat.min_eq_left hk]
 generalize (l.take k).flatMap E.f = A at *
 rw [e, ← h1, List.drop_left]
theorem So.take {E : Enc α} {s : St} {x : AV} {l : List α} (h : So E s x l) {k : Nat} (hk : k ≤ l.length) : ∃ y, sliceV E.z x none (some (.int .i64 (k : Int))) none = some y ∧ Sl E s y (l.take k) ∧ ∀ c, c ∈ blkOf y → c ∈ blkOf x := by
 have hlen := h.sl.len
 rcases h with ⟨rfl, h2⟩ | ⟨b, kk, n, c, rfl, g1, g2, g3⟩
 ·simp only [slLen, Option.some.injEq] at hlen
  have : k = 0 := by omega
  subst this
  exact ⟨.nilslice, rfl, by rw [List.take_zero]; exact .nil _ _, fun c hc => hc⟩
 ·have hn : n = l.length := by simpa [slLen] using hlen
  have e1 : sliceV E.z (.slice b 0 n (.var kk 0)) none (some (.int .i64 (k : Int))) none = sliceVar E.z b 0 n kk 0 0 k := by
   simp [sliceV, optInt, sliceSl, natOf]
  rw [e1]
  unfold sliceVar
  rw [if_pos (by simp [Nat.ble_eq]; omega)]
  cases hb : Nat.blt 0 n with
  | true =>
   simp only
   refine ⟨_, rfl, .inr ⟨b, 0, k, .var kk 0, by simp, by rw [E.flat_len, List.length_take, Nat.min_eq_left hk], c, _, _, g2, ?_, ?_⟩, by simp [blkOf]⟩
   ·rw [E.flat_len, List.length_take, Nat.min_eq_left hk, Nat.zero_add]; exact Nat.mul_le_mul_right _ (by omega)
   ·have hm : k * E.z ≤ n * E.z := Nat.mul_le_mul_right _ (by omega)
    have := getAll_part g3 0 (k * E.z) (by omega)
    rw [List.drop_zero] at this
    rw [E.flat_take hk]
    rw [List.length_take, g1, Nat.min_eq_left hm]
    exact this
  | false =>
   have h0 : n = 0 := by
    have : ¬ (Nat.blt 0 n = true) := by rw [hb]; simp
    rw [Nat.blt_eq] at this; omega
   have : k = 0 := by omega
   subst this
   exact ⟨_, rfl, by rw [List.take_zero]; exact .inl ⟨rfl, rfl⟩, by simp [blkOf]⟩
theorem So.drop {E : Enc α} {s : St} {x : AV} {l : List α} (h : So E s x l) {k : Nat} (hk : k ≤ l.length) : ∃ y, sliceV E.z x (some (.int .i64 (k : Int))) none none = some y ∧ Sl E s y (l.drop k) ∧ ∀ c, c ∈ blkOf y → c ∈ blkOf x := by
 have hlen := h.sl.len
 rcases h with ⟨rfl, h2⟩ | ⟨b, kk, n, c, rfl, g1, g2, g3⟩
 ·simp only [slLen, Option.some.injEq] at hlen
  have : k = 0 := by omega
  subst this
  have : l = [] := List.length_eq_zero_iff.1 hlen.symm
  subst this
  exact ⟨.nilslice, rfl, .nil _ _, fun c hc => hc⟩
 ·have hn : n = l.length := by simpa [slLen] using hlen
  have e1 : sliceV E.z (.slice b 0 n (.var kk 0)) (some (.int .i64 (k : Int))) none none = sliceVar E.z b 0 n kk 0 k n := by
   simp [sliceV, optInt, sliceSl, natOf]
  rw [e1]
  unfold sliceVar
  rw [if_pos (by simp [Nat.ble_eq]; omega)]
  cases hb : Nat.blt k n with
  | true =>
   simp only
   refine ⟨_, rfl, .inr ⟨b, 0 + k * E.z, n - k, .var kk (0 + k), rfl, by rw [E.flat_len, List.length_drop, hn], c, _, _, g2, ?_, ?_⟩, by simp [blkOf]⟩
   ·rw [E.flat_len, List.length_drop, ← hn, Nat.zero_add, ← Nat.add_mul]; exact Nat.mul_le_mul_right _ (by omega)
   ·have hm : k * E.z + (n - k) * E.z = n * E.z := by rw [← Nat.add_mul]; congr 1; omega
    have := getAll_part g3 (k * E.z) ((n - k) * E.z) (by omega)
    rw [List.take_of_length_le (by rw [List.length_drop, g1]; omega)] at this
    rw [E.flat_drop hk, List.length_drop, g1, show n * E.z - k * E.z = (n - k) * E.z by omega]
    rw [Nat.zero_add] at this ⊢
    exact this
  | false =>
   have h0 : n ≤ k := by
    have : ¬ (Nat.blt k n = true) := by rw [hb]; simp
    rw [Nat.blt_eq] at this; omega
   exact ⟨_, rfl, by rw [List.drop_eq_nil_of_le (by omega)]; exact .inl ⟨rfl, rfl⟩, by simp [blkOf]⟩
end
end Go.Eng

namespace Go.Eng
noncomputable section
variable {P : Program} {D : Tab}
mutual
def cln : AV → Bool
 | .ssl _ _ _ => false
 | .agg xs => clnL xs
 | .tuple xs => clnL xs
 | .iface _ a => cln a
 | .func _ xs ys => clnL xs && clnL ys
 | _ => true
def clnL : List AV → Bool
 | [] => true
 | a :: r => cln a && clnL r
end
structure Sides (p q r : Phi) : Prop where
 blk : ∀ b x, p.blk b = some x → r.blk b = q.blk b
 cap : ∀ k x, p.cap k = some x → r.cap k = q.cap k
 sym : ∀ k, r.sym k = q.sym k
 env : r.env = q.env
theorem CR.agree {p q r : Phi} (hs : Sides p q r) {a : ACap} {c0 c : Nat} (h0 : CR p a c0) (h : CR q a c) : CR r a c := by
 cases h0 with
 | exact n => cases h; exact .exact _
 | var h1 => cases h with
  | var h2 => exact .var (by rw [hs.cap _ _ h1]; exact h2)
mutual
theorem VR.agree {p q r : Phi} (hs : Sides p q r) : ∀ {a : AV} {v0 v : Value}, VR p a v0 → VR q a v → cln a = true → VR r a v
 | _, _, _, .bool _, h, _ => by cases h; exact .bool _
 | _, _, _, .int _ _, h, _ => by cases h; exact .int _ _
 | _, _, _, .str _, h, _ => by cases h; exact .str _
 | _, _, _, .nilptr, h, _ => by cases h; exact .nilptr
 | _, _, _, .ptr hb _, h, _ => by
  cases h with
  | ptr h' o => exact .ptr (by rw [hs.blk _ _ hb]; exact h') _
 | _, _, _, .nilslice, h, _ => by cases h; exact .nilslice
 | _, _, _, .slice hb hc _ _ _, h, _ => by
  cases h with
  | slice h' hc' o n hn => exact .slice (by rw [hs.blk _ _ hb]; exact h') (hc.agree hs hc') _ _ hn
 | _, _, _, .slice0 _ _ _ _, h, _ => by
  cases h with
  | slice0 z a c hz => exact .slice0 _ _ _ hz
 | _, _, _, .sym _ _, h, _ => by
  cases h with
  | sym h' hp => exact .sym (by rw [hs.sym]; exact h') hp
 | _, _, _, .tm _ _ _, h, _ => by
  cases h with
  | tm _ _ ht => exact .tm _ _ (by rw [hs.env]; exact ht)
 | _, _, _, .ssl0 _ _ _, _, hc => by simp [cln] at hc
 | _, _, _, .ssl _ _ _ _, _, hc => by simp [cln] at hc
 | _, _, _, .sptr hb _ _ _, h, _ => by
  cases h with
  | sptr h' ht z o => exact .sptr (by rw [hs.blk _ _ hb]; exact h') (by rw [hs.env]; exact ht) _ _
 | _, _, _, .nilmap, h, _ => by cases h; exact .nilmap
 | _, _, _, .map hb, h, _ => by
  cases h with
  | map h' => exact .map (by rw [hs.blk _ _ hb]; exact h')
 | _, _, _, .yld hb, h, _ => by
  cases h with
  | yld h' => exact .yld (by rw [hs.blk _ _ hb]; exact h')
 | _, _, _, .func _ hx hy, h, hc => by
  cases h with
  | func f hx' hy' =>
   simp only [cln, Bool.and_eq_true] at hc
   exact .func _ (VRs.agree hs hx hx' hc.1) (VRs.agree hs hy hy' hc.2)
 | _, _, _, .nilFunc, h, _ => by cases h; exact .nilFunc
 | _, _, _, .iface _ hv, h, hc => by
  cases h with
  | iface t hv' => exact .iface _ (VR.agree hs hv hv' (by simpa [cln] using hc))
 | _, _, _, .nilIface, h, _ => by cases h; exact .nilIface
 | _, _, _, .agg hx, h, hc => by
  cases h with
  | agg hx' => exact .agg (VRs.agree hs hx hx' (by simpa [cln] using hc))
 | _, _, _, .tuple hx, h, hc => by
  cases h with
  | tuple hx' => exact .tuple (VRs.agree hs hx hx' (by simpa [cln] using hc))
theorem VRs.agree {p q r : Phi} (hs : Sides p q r) : ∀ {a : List AV} {v0 v : List Value}, VRs p a v0 → VRs q a v → clnL a = true → VRs r a v
 | _, _, _, .nil, h, _ => by cases h; exact .nil
 | _, _, _, .cons h0 hs0, h, hc => by
  cases h with
  | cons h1 hs1 =>
   simp only [clnL, Bool.and_eq_true] at hc
   exact .cons (VR.agree hs h0 h1 hc.1) (VRs.agree hs hs0 hs1 hc.2)
end
def ClO : AObj → Prop
 | .cells c n _ => ∀ i a, i < n → c.get i = some a → cln a = true
 | .map es _ => ∀ e, e ∈ es → cln e.1 = true ∧ cln e.2.1 = true
 | _ => False
theorem CellsR.agree {p q r : Phi} (hs : Sides p q r) {sh : Nat} {c : PT AV} {n : Nat} {arr0 arr : Array Value} (h0 : CellsR p sh c n arr0) (h : CellsR q sh c n arr) (hc : ∀ i a, i < n → c.get i = some a → cln a = true) : CellsR r sh c n arr :=
 ⟨h.1, fun i a hi ha => by
  obtain ⟨v0, _, h1⟩ := h0.2 i a hi ha
  obtain ⟨v, h2, h3⟩ := h.2 i a hi ha
  exact ⟨v, h2, h1.agree hs h3 (hc i a hi ha)⟩⟩
theorem ER.agree {p q r : Phi} (hs : Sides p q r) : ∀ {es : List (AV × AV × Nat)} {m0 m : List MapEntry}, ER p es m0 → ER q es m → (∀ e, e ∈ es → cln e.1 = true ∧ cln e.2.1 = true) → ER r es m
 | [], [], [], _, _, _ => trivial
 | [], [], _ :: _, _, h, _ => by simp [ER] at h
 | [], _ :: _, _, h, _, _ => by simp [ER] at h
 | _ :: _, [], _, h, _, _ => by simp [ER] at h
 | _ :: _, _ :: _, [], _, h, _ => by simp [ER] at h
 | (a, b, c) :: es, e0 :: m0, e :: m, ⟨h1, h2, h3, h4⟩, ⟨g1, g2, g3, g4⟩, hc => by
  have := hc (a, b, c) (List.mem_cons_self ..)
  exact ⟨h1.agree hs g1 this.1, h2.agree hs g2 this.2, g3, ER.agree hs h4 g4 fun e he => hc e (List.mem_cons_of_mem _ he)⟩
theorem OR.agree {p q r : Phi} (hs : Sides p q r) {sh : Nat} {o : AObj} {ro0 ro : Obj} (h0 : OR p sh o ro0) (h : OR q sh o ro) (hc : ClO o) : OR r sh o ro := by
 cases h0 with
 | cells hc0 => cases h with
  | cells hc1 => exact .cells (hc0.agree hs hc1 hc)
 | tail hc0 hk0 _ _ => cases h with
  | tail hc1 hk hsz hf => exact .tail (hc0.agree hs hc1 hc) (by rw [hs.cap _ _ hk0]; exact hk) hsz hf
  | rom hc1 => exact .rom (hc0.agree hs hc1 hc)
 | rom hc0 => cases h with
  | tail hc1 hk hsz hf => exact .rom (hc0.agree hs hc1 hc)
  | rom hc1 => exact .rom (hc0.agree hs hc1 hc)
 | map he0 => cases h with
  | map he => exact .map (he0.agree hs he hc)
 | _ => exact hc.elim
end
end Go.Eng

namespace Go.Eng
noncomputable section
variable {P : Program} {D : Tab}
inductive CV (s : St) (θ κ : Nat → Option Nat) : AV → AV → Prop
 | bool (b : Bool) : CV s θ κ (.bool b) (.bool b)
 | int (k : IntKind) (n : Int) : CV s θ κ (.int k n) (.int k n)
 | str (x : ByteArray) : CV s θ κ (.str x) (.str x)
 | nilslice : CV s θ κ .nilslice .nilslice
 | slice {d b q k : Nat} (o n : Nat) (hb : s.nx ≤ b) (h : θ b = some d) (hk : s.nc ≤ k) (hc : κ k = some q) : CV s θ κ (.slice d o n (.var q 0)) (.slice b o n (.var k 0))
 | pair {a a' c c' : AV} (h : CV s θ κ a a') (h' : CV s θ κ c c') : CV s θ κ (.tuple [a, c]) (.tuple [a', c'])
inductive CO (s : St) (θ κ : Nat → Option Nat) : AObj → AObj → Prop
 | mk {c1 c0 : PT AV} {n q k z : Nat} (hz : 0 < z) (hk : s.nc ≤ k) (hc : κ k = some q) (h : ∀ i a0, i < n → c0.get i = some a0 → ∃ a1, c1.get i = some a1 ∧ CV s θ κ a1 a0) : CO s θ κ (.cells c1 n (some (q, z))) (.cells c0 n (some (k, z)))
structure Iso (s : St) (hR : PT AObj) (v1 : AV) (s1 : St) (v0 : AV) (s0 : St) (θ κ : Nat → Option Nat) : Prop where
 keep : ∀ b o, hR.get b = some o → s1.h.get b = some o
 old : ∀ b, b < s.nx → s0.h.get b = s.h.get b
 new : ∀ b o0, s.nx ≤ b → s0.h.get b = some o0 → ∃ d o1, θ b = some d ∧ s1.h.get d = some o1 ∧ hR.get d = none ∧ CO s θ κ o1 o0
 inj : ∀ b b' d, s.nx ≤ b → s.nx ≤ b' → θ b = some d → θ b' = some d → b = b'
 top : ∀ b, s0.nx ≤ b → θ b = none
 topc : ∀ k, s0.nc ≤ k → κ k = none
 val : CV s θ κ v1 v0
 nx : s.nx ≤ s0.nx
 nc : s.nc ≤ s0.nc
 fs : s0.fs = s.fs
 fs1 : s1.fs = s.fs
def phiC (φ1 : Phi) (s : St) (θ κ : Nat → Option Nat) : Phi :=
 { φ1 with blk := fun b => if b < s.nx then φ1.blk b else (θ b).bind φ1.blk, cap := fun k => if k < s.nc then φ1.cap k else (κ k).bind φ1.cap }
theorem CallsA.canon {g : FuncId} {args : List AV} {s s0 : St} {hR : PT AObj} {v0 : AV} (hsub : ∀ b o, hR.get b = some o → s.h.get b = some o ∧ ClO o) {Q : AV → St → Prop} (h : CallsA P g args { s with h := hR } Q)
  (hiso : ∀ v1 s1, Q v1 s1 → ∃ θ κ, Iso s hR v1 s1 v0 s0 θ κ) : CallsA P g args s fun v s' => v = v0 ∧ s' = s0 := by
 intro φ vals w cs hr hv
 have hrR := (hr.less (h' := hR) (fun b o hb => (hsub b o hb).1)).1
 obtain ⟨v1, s1, hq, φ1, u, w1, fr, q1, q2, q3, q4⟩ := h φ vals w cs hrR hv
 obtain ⟨θ, κ, I⟩ := hiso v1 s1 hq
 have hold : ∀ b, b < s.nx → φ1.blk b = φ.blk b := q1.old
 have blk_old : ∀ b, b < s.nx → (phiC φ1 s θ κ).blk b = φ.blk b := fun b hb => by
  show (if b < s.nx then φ1.blk b else (θ b).bind φ1.blk) = _
  rw [if_pos hb]; exact hold b hb
 have blk_new : ∀ b, s.nx ≤ b → (phiC φ1 s θ κ).blk b = (θ b).bind φ1.blk := fun b hb => by
  show (if b < s.nx then φ1.blk b else (θ b).bind φ1.blk) = _
  rw [if_neg (by omega)]
 have cap_old : ∀ k, k < s.nc → (phiC φ1 s θ κ).cap k = φ1.cap k := fun k hk => by
  show (if k < s.nc then φ1.cap k else (κ k).bind φ1.cap) = _
  rw [if_pos hk]
 have cap_new : ∀ k, s.nc ≤ k → (phiC φ1 s θ κ).cap k = (κ k).bind φ1.cap := fun k hk => by
  show (if k < s.nc then φ1.cap k else (κ k).bind φ1.cap) = _
  rw [if_neg (by omega)]
 have hlt : ∀ b x, φ.blk b = some x → b < s.nx := fun b x hx => by
  refine Classical.byContradiction fun hn => ?_
  rw [hr.fresh b (by omega)] at hx; simp at hx
 have hltc : ∀ k x, φ.cap k = some x → k < s.nc := fun b x hx => by
  refine Classical.byContradiction fun hn => ?_
  rw [hr.freshc b (by omega)] at hx; simp at hx
 have hle : φ.le (phiC φ1 s θ κ) := ⟨fun b x hx => by rw [blk_old b (hlt b x hx)]; exact hx, fun k x hx => by rw [cap_old k (hltc k x hx)]; exact q1.ext.cap k x hx, q1.ext.sym, q1.ext.env⟩
 have sides : Sides φ φ1 (phiC φ1 s θ κ) := ⟨fun b x hx => by rw [blk_old b (hlt b x hx), hold b (hlt b x hx)], fun k x hx => cap_old k (hltc k x hx), fun _ => rfl, rfl⟩
 have val : ∀ a1 a0 v, CV s θ κ a1 a0 → VR φ1 a1 v → VR (phiC φ1 s θ κ) a0 v := by
  intro a1 a0 v hc
  induction hc generalizing v with
  | bool b => intro hv; cases hv; exact .bool _
  | int k n => intro hv; cases hv; exact .int _ _
  | str x => intro hv; cases hv; exact .str _
  | nilslice => intro hv; cases hv; exact .nilslice
  | slice o n hb h hk hc =>
   intro hv
   cases hv with
   | slice h' hc' _ _ hn =>
    cases hc' with
    | var hk' => exact .slice (by rw [blk_new _ hb, h]; exact h') (.var (by rw [cap_new _ hk, hc]; exact hk')) _ _ hn
  | pair h1 h2 ih1 ih2 =>
   intro hv
   cases hv with
   | tuple hx => cases hx with
    | cons u1 hx => cases hx with
     | cons u2 hx => cases hx; exact .tuple (.cons (ih1 _ u1) (.cons (ih2 _ u2) .nil))
 have apart : ∀ b d r sh sh', (s.h.get b).isSome = true → φ.blk b = some (r, sh) → (s1.h.get d).isSome = true → hR.get d = none → φ1.blk d = some (r, sh') → False := by
  intro b d r sh sh' hb h1 hd hdn h2
  obtain ⟨o, ho⟩ := Option.isSome_iff_exists.1 hb
  obtain ⟨ro, hro, _⟩ := hr.objS ho h1
  have hrs : r < w.heap.size := (Array.getElem?_eq_some_iff.1 hro).1
  rcases q1.own d r sh' hd h2 with h3 | ⟨b0, sh0, h3, h4⟩
  ·omega
  ·obtain ⟨o', ho'⟩ := Option.isSome_iff_exists.1 h3
   have hb0 : b0 = b := hr.inj b0 b r sh0 sh (by rw [(hsub b0 o' ho').1]; rfl) hb h4 h1
   subst hb0
   have h5 := I.keep b0 o' ho'
   have : b0 = d := q2.inj b0 d r sh sh' (by rw [h5]; rfl) hd (by rw [hold b0 (hlt _ _ h1)]; exact h1) h2
   subst this
   have ho'' : hR.get b0 = some o' := ho'
   rw [ho''] at hdn; simp at hdn
 have newat : ∀ b, s.nx ≤ b → (s0.h.get b).isSome = true → ∀ x, (phiC φ1 s θ κ).blk b = some x → ∃ d, θ b = some d ∧ (s1.h.get d).isSome = true ∧ hR.get d = none ∧ φ1.blk d = some x ∧ ownB s1.h d = true := by
  intro b hb hs x hx
  obtain ⟨o0, ho⟩ := Option.isSome_iff_exists.1 hs
  obtain ⟨d, o1, t1, t2, t3, t4⟩ := I.new b o0 hb ho
  rw [blk_new b hb, t1] at hx
  refine ⟨d, t1, by rw [t2]; rfl, t3, hx, ?_⟩
  cases t4 with
  | mk hz hk hc hh =>
   unfold ownB
   rw [t2]
   split
   ·rename_i e
    simp only [Option.some.injEq, AObj.cells.injEq, Prod.mk.injEq] at e
    omega
   ·rfl
   ·rename_i e; simp at e
 have hrel : Rel (phiC φ1 s θ κ) s0 w1 := by
  refine ⟨fun b o ho => ?_, fun b b' r sh sh' hb hb' h1 h2 => ?_, fun b hb => ?_, fun k hk => ?_, fun g hg => ?_, Nat.le_trans hr.gnx I.nx, ?_⟩
  ·by_cases hb : b < s.nx
   ·rw [I.old b hb] at ho
    rcases hr.obj b o ho with hv | ⟨r, sh, ro, g1, g2, g3⟩
    ·exact .inl (hv.mono q1.ext.env (by rw [blk_old b hb]; exact hv.none))
    ·refine .inr ?_
     cases e : hR.get b with
     | some o' =>
      obtain ⟨e1, e2⟩ := hsub b o' e
      rw [ho] at e1
      simp only [Option.some.injEq] at e1
      subst e1
      obtain ⟨ro1, k1, k2⟩ := q2.objS (I.keep b o e) (by rw [hold b hb]; exact g1)
      exact ⟨r, sh, ro1, by rw [blk_old b hb]; exact g1, k1, g3.agree sides k2 e2⟩
     | none =>
      have hk := q1.keep r (Array.getElem?_eq_some_iff.1 g2).1 fun b' sh' hb' hc => by
       have hs' : ((hR.get b')).isSome = true := ownB.some hb'
       obtain ⟨o', ho'⟩ := Option.isSome_iff_exists.1 hs'
       have := hr.inj b' b r sh' sh (by rw [(hsub b' o' ho').1]; rfl) (by rw [ho]; rfl) hc g1
       subst this
       rw [e] at ho'; simp at ho'
      exact ⟨r, sh, ro, by rw [blk_old b hb]; exact g1, by rw [hk]; exact g2, g3.mono hle⟩
   ·obtain ⟨d, o1, t1, t2, t3, t4⟩ := I.new b o (by omega) ho
    cases t4 with
    | mk hz hk hc hh =>
     obtain ⟨r, sh, ro, g1, g2, g3⟩ := q2.objN t2 (by intro _ _ _ _ e; simp at e)
     cases g3 with
     | tail hc1 hk1 hs1 hf1 =>
      refine .inr ⟨r, sh, _, by rw [blk_new b (by omega), t1]; exact g1, g2, .tail ⟨hc1.1, fun i a hi ha => ?_⟩ (by rw [cap_new _ hk, hc]; exact hk1) hs1 hf1⟩
      obtain ⟨a1, k1, k2⟩ := hh i a hi ha
      obtain ⟨v, k3, k4⟩ := hc1.2 i a1 hi k1
      exact ⟨v, k3, val _ _ _ k2 k4⟩
     | rom hc1 => omega
  ·by_cases c : b < s.nx
   ·have hb1 := hb
    rw [I.old b c] at hb1
    rw [blk_old b c] at h1
    by_cases c' : b' < s.nx
    ·rw [I.old b' c'] at hb'
     rw [blk_old b' c'] at h2
     exact hr.inj b b' r sh sh' hb1 hb' h1 h2
    ·obtain ⟨d, _, k2, k3, k4, _⟩ := newat b' (by omega) hb' _ h2
     exact (apart b d r sh sh' hb1 h1 k2 k3 k4).elim
   ·obtain ⟨d, k1, k2, k3, k4, _⟩ := newat b (by omega) hb _ h1
    by_cases c' : b' < s.nx
    ·rw [I.old b' c'] at hb'
     rw [blk_old b' c'] at h2
     exact (apart b' d r sh' sh hb' h2 k2 k3 k4).elim
    ·obtain ⟨d', m1, m2, m3, m4, _⟩ := newat b' (by omega) hb' _ h2
     have : d = d' := q2.inj d d' r sh sh' k2 m2 k4 m4
     subst this
     exact I.inj b b' d (by omega) (by omega) k1 m1
  ·rw [blk_new b (Nat.le_trans I.nx hb), I.top b hb]; rfl
  ·rw [cap_new k (Nat.le_trans I.nc hk), I.topc k hk]; rfl
  ·have : g < s.nx := Nat.lt_of_lt_of_le hg (Nat.le_trans (by decide) hr.gnx)
   rw [blk_old g this]; exact hr.glob g hg
  ·have := q2.facts
   rw [I.fs1] at this
   rw [I.fs]; exact this
 refine ⟨v0, s0, ⟨rfl, rfl⟩, phiC φ1 s θ κ, u, w1, fr, ⟨hle, fun b r sh hb h1 => ?_, fun b r sh hb h1 => ?_, fun r hrs hn => ?_, q1.size, q1.os, q1.out, q1.tape, I.nx, I.nc, blk_old, q1.shape, q1.dr⟩, hrel, val _ _ _ I.val q3, q4⟩
 ·by_cases c : b < s.nx
  ·rw [I.old b c] at hb
   rw [blk_old b c] at h1
   exact .inr ⟨b, sh, hb, h1⟩
  ·obtain ⟨d, k1, k2, k3, k4, _⟩ := newat b (by omega) hb _ h1
   rcases q1.own d r sh k2 k4 with h3 | ⟨b0, sh0, h3, h4⟩
   ·exact .inl h3
   ·obtain ⟨o', ho'⟩ := Option.isSome_iff_exists.1 h3
    exact .inr ⟨b0, sh0, by rw [(hsub b0 o' ho').1]; rfl, h4⟩
 ·by_cases c : b < s.nx
  ·rw [blk_old b c] at h1
   exact .inr ⟨b, sh, by rw [← ownB.eq (I.old b c)]; exact hb, h1⟩
  ·obtain ⟨d, k1, k2, k3, k4, k5⟩ := newat b (by omega) (ownB.some hb) _ h1
   rcases q1.owb d r sh k5 k4 with h3 | ⟨b0, sh0, h3, h4⟩
   ·exact .inl h3
   ·have h3' : ownB hR b0 = true := h3
    obtain ⟨o', ho'⟩ := Option.isSome_iff_exists.1 (ownB.some h3')
    exact .inr ⟨b0, sh0, by rw [ownB.eq (h := hR) (h' := s.h) (b := b0) (c := b0) (by rw [(hsub b0 o' ho').1, ho'])]; exact h3', h4⟩
 ·refine q1.keep r hrs fun b sh hb => hn b sh ?_
  have hb' : ownB hR b = true := hb
  obtain ⟨o', ho'⟩ := Option.isSome_iff_exists.1 (ownB.some hb')
  rw [ownB.eq (h := hR) (h' := s.h) (b := b) (c := b) (by rw [(hsub b o' ho').1, ho'])]
  exact hb'
theorem CallsD.canon {g : FuncId} {args : List AV} {s s0 : St} {hR : PT AObj} {v0 : AV} (hsub : ∀ b o, hR.get b = some o → s.h.get b = some o ∧ ClO o) {Q Q0 : AV → St → Prop} (h : CallsA P g args { s with h := hR } Q)
  (hiso : ∀ v1 s1, Q v1 s1 → ∃ θ κ, Iso s hR v1 s1 v0 s0 θ κ) (hG : Fr s → Gro s s0) (hQ : Fr s → Q0 v0 s0) : CallsD P g args s Q0 :=
 fun hf => ⟨v0, s0, hQ hf, hG hf, CallsA.canon hsub h hiso⟩
end
end Go.Eng

namespace Go.Eng
noncomputable section
variable {α : Type} [Inhabited α]
def at' (l : List α) (i : Nat) : α := (l[i]?).getD default
theorem at_eq {l : List α} {i : Nat} (h : i < l.length) : l[i] = at' l i := by simp [at', h]
theorem at_set {l : List α} {i k : Nat} {x : α} (hi : i < l.length) : at' (l.set i x) k = if k = i then x else at' l k := by
 unfold at'
 rw [List.getElem?_set]
 by_cases e : k = i
 ·subst e; simp [hi]
 ·rw [if_neg (Ne.symm e), if_neg e]
def sw (l : List α) (i j : Nat) : List α := (l.set i (at' l j)).set j (at' l i)
@[simp] theorem sw_len (l : List α) (i j : Nat) : (sw l i j).length = l.length := by simp [sw]
theorem at_sw {l : List α} {i j k : Nat} (hi : i < l.length) (hj : j < l.length) : at' (sw l i j) k = if k = j then at' l i else if k = i then at' l j else at' l k := by
 unfold sw
 rw [at_set (by simpa using hj), at_set hi]
theorem sw_perm {l : List α} {i j : Nat} (hi : i < l.length) (hj : j < l.length) : (sw l i j).Perm l := by
 have h := Array.swap_perm (xs := l.toArray) (i := i) (j := j) (by simpa using hi) (by simpa using hj)
 have h2 := h.toList
 have e : (l.toArray.swap i j (by simpa using hi) (by simpa using hj)).toList = sw l i j := by
  simp [Array.swap, sw, at_eq hi, at_eq hj]
 rw [e] at h2
 simpa using h2
structure RP (a b : Nat) (l l' : List α) : Prop where
 len : l'.length = l.length
 out : ∀ k, (k < a ∨ b ≤ k) → at' l' k = at' l k
 perm : l'.Perm l
theorem RP.refl (a b : Nat) (l : List α) : RP a b l l := ⟨rfl, fun _ _ => rfl, .refl _⟩
theorem RP.trans {a b : Nat} {l l1 l2 : List α} (h : RP a b l l1) (h' : RP a b l1 l2) : RP a b l l2 := ⟨h'.len.trans h.len, fun k hk => (h'.out k hk).trans (h.out k hk), h'.perm.trans h.perm⟩
theorem RP.mono {a b a' b' : Nat} {l l' : List α} (h : RP a b l l') (ha : a' ≤ a) (hb : b ≤ b') : RP a' b' l l' := ⟨h.len, fun k hk => h.out k (by omega), h.perm⟩
theorem RP.sw {a b i j : Nat} {l : List α} (hi : i < l.length) (hj : j < l.length) (h1 : a ≤ i ∧ i < b) (h2 : a ≤ j ∧ j < b) : RP a b l (sw l i j) := by
 refine ⟨by simp, fun k hk => ?_, sw_perm hi hj⟩
 rw [at_sw hi hj, if_neg (by omega), if_neg (by omega)]
theorem take_of_at {l l' : List α} {a : Nat} (hl : l'.length = l.length) (h : ∀ k, k < a → at' l' k = at' l k) : l'.take a = l.take a := by
 refine List.ext_getElem (by simp [hl]) fun i h1 h2 => ?_
 have g1 : i < l'.length := by simp at h1; omega
 have g2 : i < l.length := by omega
 have : i < a := by simp at h1; omega
 rw [List.getElem_take, List.getElem_take, at_eq g1, at_eq g2, h i this]
theorem drop_of_at {l l' : List α} {b : Nat} (hl : l'.length = l.length) (h : ∀ k, b ≤ k → at' l' k = at' l k) : l'.drop b = l.drop b := by
 refine List.ext_getElem (by simp [hl]) fun i h1 h2 => ?_
 have g1 : b + i < l'.length := by simp at h1; omega
 have g2 : b + i < l.length := by omega
 rw [List.getElem_drop, List.getElem_drop, at_eq g1, at_eq g2, h (b + i) (by omega)]
omit [Inhabited α] in
theorem parts3 (l : List α) (a b : Nat) (hab : a ≤ b) : l = l.take a ++ ((l.drop a).take (b - a) ++ l.drop b) := by
 have h1 := (List.take_append_drop a l).symm
 have h2 := (List.take_append_drop (b - a) (l.drop a)).symm
 rw [List.drop_drop] at h2
 rw [show a + (b - a) = b by omega] at h2
 rw [← h2]; exact h1
theorem RP.mid {a b : Nat} {l l' : List α} (h : RP a b l l') (hab : a ≤ b) : ((l'.drop a).take (b - a)).Perm ((l.drop a).take (b - a)) := by
 have hp := h.perm
 rw [parts3 l a b hab, parts3 l' a b hab, take_of_at h.len fun k hk => h.out k (.inl hk), drop_of_at h.len fun k hk => h.out k (.inr hk)] at hp
 exact (List.perm_append_right_iff _).1 ((List.perm_append_left_iff _).1 hp)
theorem RP.all {a b : Nat} {l l' : List α} (h : RP a b l l') (hb : b ≤ l.length) {p : α → Prop} (hp : ∀ k, a ≤ k → k < b → p (at' l k)) : ∀ k, a ≤ k → k < b → p (at' l' k) := by
 intro k h1 h2
 have hm := h.mid (Nat.le_trans h1 (Nat.le_of_lt h2))
 have g1 : k < l'.length := by have := h.len; omega
 have hin : at' l' k ∈ (l'.drop a).take (b - a) := by
  rw [← at_eq g1]
  refine List.mem_iff_getElem.2 ⟨k - a, by simp; omega, ?_⟩
  rw [List.getElem_take, List.getElem_drop]
  congr 1; omega
 obtain ⟨i, hi, he⟩ := List.mem_iff_getElem.1 (hm.mem_iff.1 hin)
 simp at hi
 rw [List.getElem_take, List.getElem_drop, at_eq (by omega)] at he
 rw [← he]
 exact hp _ (by omega) (by omega)
structure LtO (lt : α → α → Bool) : Prop where
 irrefl : ∀ x, lt x x = false
 asym : ∀ x y, lt x y = true → lt y x = false
 ntrans : ∀ x y z, lt y x = false → lt z y = false → lt z x = false
def Rise (lt : α → α → Bool) (a b : Nat) (l : List α) : Prop := ∀ i j, a ≤ i → i < j → j < b → lt (at' l j) (at' l i) = false
theorem Rise.small {lt : α → α → Bool} {a b : Nat} {l : List α} (h : b ≤ a + 1) : Rise lt a b l := fun i j h1 h2 h3 => by omega
theorem Rise.less {lt : α → α → Bool} {a i j : Nat} {l : List α} (h : Rise lt a i l) (hj : j ≤ i) : Rise lt a j l := fun p q h1 h2 h3 => h p q h1 h2 (by omega)
theorem Rise.same {lt : α → α → Bool} {a i : Nat} {l l' : List α} (h : Rise lt a i l) (he : ∀ k, a ≤ k → k < i → at' l' k = at' l k) : Rise lt a i l' := fun p q h1 h2 h3 => by rw [he p h1 (by omega), he q (by omega) h3]; exact h p q h1 h2 h3
theorem wr_succ {a : Nat} (h : a + 1 < 9223372036854775808) : IntKind.wrap .i64 ((a : Int) + 1) = ((a + 1 : Nat) : Int) := by rw [wrap_i64 (by omega) (by omega)]; omega
variable {P : Program} {D : Tab}
def oneE {α : Type} (mk : α → AV) : Enc α := ⟨fun x => [mk x], 1, by decide, fun _ => rfl⟩
structure Row {α : Type} (mk : α → AV) (s0 : St) (x : AV) (s : St) (l : List α) : Prop where
 so : So (oneE mk) s x l
 frw : Frw (blkOf x) s0 s
 fr : Fr s
omit [Inhabited α] in
theorem Row.refl {mk : α → AV} {s : St} {x : AV} {l : List α} (h : So (oneE mk) s x l) (hf : Fr s) : Row mk s x s l := ⟨h, .refl _ _, hf⟩
omit [Inhabited α] in
theorem Row.ext {mk : α → AV} {s0 s s' : St} {x : AV} {l : List α} (h : Row mk s0 x s l) (hf : Frw [] s s') (hfr : Fr s') : Row mk s0 x s' l := ⟨h.so.ext hf, h.frw.trans (hf.mono (by simp)), hfr⟩
omit [Inhabited α] in
theorem Row.from {mk : α → AV} {s0 s s' : St} {x : AV} {l l' : List α} (h : Row mk s0 x s l) (h' : Row mk s x s' l') : Row mk s0 x s' l' := ⟨h'.so, h.frw.trans h'.frw, h'.fr⟩
theorem Row.rd {mk : α → AV} {s0 s : St} {x : AV} {l : List α} (h : Row mk s0 x s l) {i : Int} {k : Nat} (hi : i = (k : Int)) (hk : k < l.length) {R : α → Prop} (hR : R (at' l k)) : ixsK 1 x i fun b o => ∃ n, ld1 s (.ptr b o) = some (mk n) ∧ R n :=
 h.so.sl.ixs rfl hi hk fun b o hr => ⟨at' l k, by have := hr.ld1 0 (v := mk l[k]) rfl; rw [at_eq hk] at this; exact this, hR⟩
omit [Inhabited α] in
theorem Row.wr {mk : α → AV} (hm : ∀ x, ones [mk x] = true) {s0 s : St} {x : AV} {l : List α} (h : Row mk s0 x s l) {i : Int} {k : Nat} (hi : i = (k : Int)) (hk : k < l.length) (a : α) {R : St → Prop} (hR : ∀ s', Row mk s0 x s' (l.set k a) → R s') : ixsK 1 x i fun b o => ∃ s', wrN s (.ptr b o) [mk a] = some s' ∧ R s' :=
 So.ixsWr (j := 0) (vs := [mk a]) (a := a) h.so rfl hi hk (hm a) (Nat.le_refl _) (by simp [splice, oneE]) fun b o s' hb hw hso hf hn hc => ⟨s', hw, hR s' ⟨hso, h.frw.trans (hf.mono (by simp [hb])), h.fr.wr (h.so.there b (by simp [hb])) hn hc⟩⟩
end
end Go.Eng

namespace Go.Eng
noncomputable section
variable {P : Program} {D : Tab} {α : Type}
theorem So.wrMany {E : Enc α} {s : St} {x : AV} {l : List α} (h : So E s x l) {k : Nat} {l2 : List α} (h2 : 0 < l2.length) (hk : k + l2.length ≤ l.length) (hv : ones (l2.flatMap E.f) = true) :
  ∃ b kk n, x = .slice b 0 n (.var kk 0) ∧ n = l.length ∧ ∃ s', writeAll s b (k * E.z) (l2.flatMap E.f) = some s' ∧ So E s' x (l.take k ++ l2 ++ l.drop (k + l2.length)) ∧ Frw [b] s s' ∧ s'.nx = s.nx ∧ ∀ c, c ≠ b → s'.h.get c = s.h.get c := by
 have hlen := h.sl.len
 rcases h with ⟨rfl, h3⟩ | ⟨b, kk, n, c, rfl, g1, g2, g3⟩
 ·simp only [slLen, Option.some.injEq] at hlen
  omega
 ·have hn : n = l.length := by simpa [slLen] using hlen
  have hvl : (l2.flatMap E.f).length = l2.length * E.z := E.flat_len l2
  have hmul : (k + l2.length) * E.z ≤ n * E.z := Nat.mul_le_mul_right _ (by omega)
  rw [Nat.add_mul] at hmul
  have hb : Nat.ble (k * E.z + (l2.flatMap E.f).length) (n * E.z) = true := by rw [Nat.ble_eq]; omega
  have hsp : splice (l.flatMap E.f) (k * E.z) (l2.flatMap E.f) = (l.take k ++ l2 ++ l.drop (k + l2.length)).flatMap E.f := by
   rw [List.flatMap_append, List.flatMap_append, E.flat_take (by omega), E.flat_drop hk, splice, hvl, Nat.add_mul]
  have hl : (splice (l.flatMap E.f) (k * E.z) (l2.flatMap E.f)).length = n * E.z := by
   simp only [splice, List.length_append, List.length_take, List.length_drop, g1]; omega
  refine ⟨b, kk, n, rfl, hn, { s with h := s.h.set b (.cells (c.setAll (k * E.z) (l2.flatMap E.f)) (n * E.z) (some (kk, E.z))) }, ?_, .inr ⟨b, kk, n, c.setAll (k * E.z) (l2.flatMap E.f), rfl, by rw [← hsp, hl], by simp [PT.get_set_same], ?_⟩, ⟨fun d o hd hx => ?_, Nat.le_refl _, rfl⟩, rfl, fun d hd => by simp [PT.get_set, hd]⟩
  ·have hwr : wr (some (kk, E.z)) = true := by
    have := E.pos
    cases h : E.z with
    | zero => omega
    | succ => rfl
   simp only [writeAll, g2, hv, hb, hwr, Bool.and_self, if_true]
  ·rw [← hsp]
   refine getAll_of hl fun i hi => ?_
   obtain ⟨_, hg⟩ := PT.getAll_spec _ c 0 _ g3
   have hg' := hg i hi
   rw [Nat.zero_add] at hg' ⊢
   rw [PT.get_setAll]
   by_cases hin : k * E.z ≤ i ∧ i < k * E.z + (l2.flatMap E.f).length
   ·rw [if_pos hin]
    simp only [splice]
    rw [List.append_assoc, List.getElem?_append_right (by simp only [List.length_take, g1]; omega), List.getElem?_append_left (by simp only [List.length_take, g1]; omega)]
    congr 1
    simp only [List.length_take, g1]; omega
   ·rw [if_neg hin, hg']
    simp only [splice]
    by_cases hlo : i < k * E.z
    ·rw [List.append_assoc, List.getElem?_append_left (by simp only [List.length_take, g1]; omega), List.getElem?_take_of_lt hlo]
    ·rw [List.getElem?_append_right (by simp only [List.length_append, List.length_take, g1]; omega)]
     simp only [List.length_append, List.length_take, List.getElem?_drop, g1]
     congr 1
     omega
  ·have : d ≠ b := by simpa using hd
   simp [PT.get_set, this, hx]
theorem zeros_flat {E : Enc α} {z : AV} {z0 : α} (hz : z.cells = E.f z0) : ∀ n, zeros z.cells n = (List.replicate n z0).flatMap E.f
 | 0 => rfl
 | n + 1 => by rw [zeros, zeros_flat hz n, List.replicate_succ, List.flatMap_cons, hz]
theorem So.clear {E : Enc α} {s : St} {x : AV} {l : List α} (h : So E s x l) {k : Nat} (hk : k < l.length) {t et : TypeId} {ti ei : TyI} {z : AV} {z0 : α} (ht : D.ty.get t = some ti) (hd : ti.d = .slice et) (he : D.ty.get et = some ei) (hz : ei.zero = some z) (hz0 : z.cells = E.f z0) (h1 : ∀ n, ones ((List.replicate n z0).flatMap E.f) = true) :
  ∃ y, sliceV E.z x (some (.int .i64 (k : Int))) none none = some y ∧ ∃ s', clearA D s t y = some (.tuple [], s') ∧ So E s' x (l.take k ++ List.replicate (l.length - k) z0) ∧ Frw (blkOf x) s s' ∧ s'.nx = s.nx ∧ ∀ c, c ∉ blkOf x → s'.h.get c = s.h.get c := by
 obtain ⟨b, kk, n, rfl, hn, s', w1, w2, w3, w4, w5⟩ := h.wrMany (k := k) (l2 := List.replicate (l.length - k) z0) (by simp; omega) (by simp; omega) (h1 _)
 have e1 : sliceV E.z (.slice b 0 n (.var kk 0)) (some (.int .i64 (k : Int))) none none = some (.slice b (0 + k * E.z) (n - k) (.var kk (0 + k))) := by
  simp only [sliceV, optInt, sliceSl, natOf]
  unfold sliceVar
  have hb : Nat.blt k n = true := by rw [Nat.blt_eq]; omega
  have hn0 : n ≠ 0 := by omega
  simp [hb, hn0, Nat.ble_eq]
  omega
 refine ⟨_, e1, s', ?_, ?_, w3, w4, fun c hc => w5 c (by simpa [blkOf] using hc)⟩
 ·obtain ⟨m, hm⟩ : ∃ m, n - k = m + 1 := ⟨n - k - 1, by omega⟩
  rw [hm]
  simp only [clearA, ht, hd, he, hz]
  rw [← hm, zeros_flat hz0, hn, Nat.zero_add, w1]
 ·rw [List.length_replicate, show k + (l.length - k) = l.length by omega, List.drop_length, List.append_nil] at w2
  exact w2
end
end Go.Eng

namespace Go.Eng
noncomputable section
variable {P : Program} {D : Tab} {α : Type}
def ArgS (x : AV) : Prop := x = .nilslice ∨ x = .slice0 false ∨ ∃ b o n c, x = .slice b o n (.exact c) ∧ 0 < n ∧ n ≤ c
theorem absV_arg {m n : Nat} {v : Value} {a : AV} (h : absV m v = some a) (hs : slLen a = some n) : ArgS a := by
 unfold absV at h
 split at h
 all_goals first
  | (simp at h; done)
  | (simp at h; subst h; simp [slLen] at hs; done)
  | (simp at h; subst h; exact .inl rfl)
  | (simp at h; subst h; exact .inr (.inl rfl))
  | skip
 ·split at h
  ·simp at h; subst h; simp [slLen] at hs
  ·simp at h
 ·split at h
  ·rename_i hc
   simp at h; subst h
   exact .inr (.inr ⟨_, _, _, _, rfl, by omega, hc.2.2⟩)
  ·simp at h
end
end Go.Eng

namespace Go.Eng
noncomputable section
variable {α : Type} [Inhabited α]
def Lex (lt : α → α → Bool) (tie : α → α → Prop) (x y : α) : Prop := lt y x = false ∧ (lt x y = false → tie x y)
def LexS (lt : α → α → Bool) (tie : α → α → Prop) (a b : Nat) (l : List α) : Prop := ∀ i j, a ≤ i → i < j → j < b → Lex lt tie (at' l i) (at' l j)
variable {lt : α → α → Bool} {tie : α → α → Prop}
theorem LexS.small {a b : Nat} {l : List α} (h : b ≤ a + 1) : LexS lt tie a b l := fun i j h1 h2 h3 => by omega
theorem LexS.less {a b c d : Nat} {l : List α} (h : LexS lt tie a b l) (h1 : a ≤ c) (h2 : d ≤ b) : LexS lt tie c d l := fun i j g1 g2 g3 => h i j (by omega) g2 (by omega)
theorem LexS.same {a b : Nat} {l l' : List α} (h : LexS lt tie a b l) (he : ∀ k, a ≤ k → k < b → at' l' k = at' l k) : LexS lt tie a b l' := fun i j h1 h2 h3 => by rw [he i h1 (by omega), he j (by omega) h3]; exact h i j h1 h2 h3
theorem LexS.rise {a b : Nat} {l : List α} (h : LexS lt tie a b l) : Rise lt a b l := fun i j h1 h2 h3 => (h i j h1 h2 h3).1
theorem LexS.join {a m b : Nat} {l : List α} (h1 : LexS lt tie a m l) (h2 : LexS lt tie m b l) (h3 : ∀ i j, a ≤ i → i < m → m ≤ j → j < b → Lex lt tie (at' l i) (at' l j)) : LexS lt tie a b l := fun i j g1 g2 g3 => by
 by_cases c : j < m
 ·exact h1 i j g1 g2 c
 ·by_cases c2 : m ≤ i
  ·exact h2 i j c2 g2 g3
  ·exact h3 i j g1 (by omega) (by omega) g3
variable {P : Program} {D : Tab}
structure RowE {α : Type} (E : Enc α) (ok : α → Prop) (s0 : St) (x : AV) (s : St) (l : List α) : Prop where
 so : So E s x l
 frw : Frw (blkOf x) s0 s
 fr : Fr s
 ok : ∀ y, y ∈ l → ok y
section
omit [Inhabited α]
variable {E : Enc α} {ok : α → Prop} {s0 s s' : St} {x : AV} {l l' : List α}
theorem RowE.ext (h : RowE E ok s0 x s l) (hf : Frw [] s s') (hfr : Fr s') : RowE E ok s0 x s' l := ⟨h.so.ext hf, h.frw.trans (hf.mono (by simp)), hfr, h.ok⟩
end
theorem RowE.at {E : Enc α} {ok : α → Prop} {s0 s : St} {x : AV} {l : List α} (h : RowE E ok s0 x s l) {k : Nat} (hk : k < l.length) : ok (at' l k) := by rw [← at_eq hk]; exact h.ok _ (List.getElem_mem hk)
theorem RowE.rd {E : Enc α} {ok : α → Prop} {s0 s : St} {x : AV} {l : List α} (h : RowE E ok s0 x s l) {z : Nat} (hz : z = E.z) {i : Int} {k : Nat} (hi : i = (k : Int)) (hk : k < l.length) {K : Nat → Nat → Prop} (hK : ∀ b o, Rd s b o (E.f (at' l k)) → K b o) : ixsK z x i K :=
 h.so.sl.ixs hz hi hk fun b o hr => hK b o (by rw [at_eq hk] at hr; exact hr)
omit [Inhabited α] in
theorem RowE.wr {E : Enc α} {ok : α → Prop} (ho : ∀ y, ok y → ones (E.f y) = true) {s0 s : St} {x : AV} {l : List α} (h : RowE E ok s0 x s l) {z : Nat} (hz : z = E.z) {i : Int} {k : Nat} (hi : i = (k : Int)) (hk : k < l.length) {a : α} (ha : ok a) {R : St → Prop} (hR : ∀ s', RowE E ok s0 x s' (l.set k a) → R s') : ixsK z x i fun b o => ∃ s', wrN s (.ptr b o) (E.f a) = some s' ∧ R s' :=
 So.ixsWr (j := 0) (vs := E.f a) (a := a) h.so hz hi hk (ho a ha) (by rw [E.len]; omega) (by
  have h1 : (E.f l[k]).drop (0 + (E.f a).length) = [] := List.drop_eq_nil_of_le (by rw [E.len, E.len]; omega)
  rw [splice, h1]; simp) fun b o s' hb hw hso hf hn hc => ⟨s', hw, hR s' ⟨hso, h.frw.trans (hf.mono (by simp [hb])), h.fr.wr (h.so.there b (by simp [hb])) hn hc, fun y hy => by
   rcases List.mem_or_eq_of_mem_set hy with h1 | h1
   ·exact h.ok y h1
   ·rw [h1]; exact ha⟩⟩
end
end Go.Eng

namespace Go.Eng
noncomputable section
variable {P : Program} {D : Tab}
theorem callK_yld {rt : FuncId → List TypeId} {l : Nat} {xs : List AV} {s : St} {K : AV → St → Prop} (h : RoundA P l xs s K) : callK P D rt false s (.yld l) xs K := h
theorem itK_of {q : FuncId} {fi : FnI} (hq : D.fn.get q = some fi) {first caps : List AV} {s : St} {l : Nat} {K : St → Prop} (h : CallsA P q (first ++ [.yld l] ++ caps) s fun _ s' => K s') : itK P D s (.func q first caps) l K := by
 unfold itK
 simp only [hq]
 exact h
theorem objAt_fwd {M : List Nat} {s s' : St} {l : Nat} {o : AObj} (h : objAt s l = some o) (hf : Frw M s s') (hl : l ∉ M) : objAt s' l = some o := hf.1 l o hl h
theorem objAt_set {s : St} {l : Nat} {o : AObj} : objAt (hsetS s l o) l = some o := by simp [objAt, hsetS, PT.get_set]
theorem objAt_ne {s : St} {l b : Nat} {o : AObj} (h : l ≠ b) : objAt (hsetS s b o) l = objAt s l := by simp [objAt, hsetS, PT.get_set, h]
theorem hsetS_frw {s : St} {b : Nat} {o : AObj} : Frw [b] s (hsetS s b o) :=
 ⟨fun c x hc hx => by
  have : c ≠ b := by simpa using hc
  simp only [hsetS, PT.get_set]; rw [if_neg this]; exact hx, Nat.le_refl _, rfl⟩
theorem NewO.at {s s' : St} {o : AObj} {b : Nat} (h : NewO s o b s') : objAt s' b = some o := by
 obtain ⟨rfl, rfl, _⟩ := h
 simp [objAt, St.new, PT.get_set]
theorem objAt_lt {s : St} {l : Nat} {o : AObj} (h : objAt s l = some o) (hfr : Fr s) : l < s.nx := by
 refine Classical.byContradiction fun hn => ?_
 have := hfr l (by omega)
 unfold objAt at h
 rw [this] at h; simp at h
theorem objAt_fr {s : St} {l : Nat} {o o' : AObj} (h : objAt s l = some o) (hfr : Fr s) : Fr (hsetS s l o') := hsetS_fr hfr (objAt_lt h hfr)
theorem endDs_one {s : St} {m : Nat} (h : objAt s m = some (.dfd true)) : endDs s [m] = some (hsetS s m (.dfd false)) := by
 unfold objAt at h
 simp [endDs, h, hsetS]
theorem Frw.go {s0 s1 s2 : St} {M M' : List Nat} (h : Frw M s0 s1) (h' : Frw M' s1 s2) (hm : ∀ c, c ∈ M' → c ∈ M ∨ s0.h.get c = Option.none) : Frw M s0 s2 :=
 ⟨fun c o hc ho => h'.1 c o (fun hx => (hm c hx).elim hc fun e => by rw [e] at ho; simp at ho) (h.1 c o hc ho), Nat.le_trans h.2.1 h'.2.1, h'.2.2.trans h.2.2⟩
def SeqA (P : Program) (D : Tab) (B : List Nat) (s0 : St) (f : AV) (n : Nat) (arg : Nat → List AV) : Prop :=
 ∀ (l : Nat) (s : St) (M0 M : List Nat) (J : Nat → St → Prop) (K : St → Prop), Frw M0 s0 s → Fr s → (∀ c, c ∈ M0 → c ∉ B) → (∀ c, c ∈ M → c ∉ B) → J 0 s →
  (∀ i s1, i < n → J i s1 → Frw M s s1 → Fr s1 → RoundA P l (arg i) s1 fun v s2 => v = .bool true ∧ J (i + 1) s2 ∧ Frw M s s2 ∧ Fr s2) →
  (∀ i s1 s2, J i s1 → Frw [] s1 s2 → J i s2) → (∀ s1, J n s1 → Frw M s s1 → Fr s1 → K s1) → itK P D s f l K
theorem SeqA.fwd {B : List Nat} {s0 s1 : St} {f : AV} {n : Nat} {arg : Nat → List AV} {M : List Nat} (h : SeqA P D B s0 f n arg) (hf : Frw M s0 s1) (hM : ∀ c, c ∈ M → c ∉ B) : SeqA P D B s1 f n arg :=
 fun l s M0 M' J K h1 h2 h3 h4 h5 h6 h7 h8 => h l s (M ++ M0) M' J K ⟨fun c o hc ho => h1.1 c o (fun hm => hc (by simp [hm])) (hf.1 c o (fun hm => hc (by simp [hm])) ho), Nat.le_trans hf.2.1 h1.2.1, h1.2.2.trans hf.2.2⟩ h2 (fun c hc => by
  rcases List.mem_append.1 hc with hc | hc
  ·exact hM c hc
  ·exact h3 c hc) h4 h5 h6 h7 h8
end
end Go.Eng

namespace Go.Eng
noncomputable section
variable {P : Program} {D : Tab} {α : Type}
theorem appendAll0 {E : Enc α} {s : St} {b : Nat} {y : AV} {l2 : List α} {t et : TypeId} {ti ei : TyI} {zv : AV} (hx : Own s b []) (hy : Sl E s y l2) (hti : D.ty.get t = some ti) (hd : ti.d = .slice et) (hei : D.ty.get et = some ei) (hsz : ei.size = E.z) (hzv : ei.zero = some zv) (hzl : zv.cells.length = E.z)
  (h1 : ∀ a, a ∈ l2 → ones (E.f a) = true) (hb : (l2.length + l2.length / 4 + 600) * ei.bytes ≤ pow48) (hbz : l2.length ≤ pow48) (hfr : Fr s) :
  ∃ v s', appendX D s t t (.slice b 0 0 (.exact 0)) y = some (v, s') ∧ Sl E s' v l2 ∧ (l2 = [] ∨ (So E s' v l2 ∧ ∀ c, c ∈ blkOf v → s.h.get c = none)) ∧ Frw [] s s' ∧ Fr s' := by
 obtain ⟨y1, y2⟩ := sliceCells_of hy
 have hs0 : Sl E s (.slice b 0 0 (.exact 0)) [] := .inr ⟨b, 0, 0, .exact 0, rfl, by simp, hx.rd⟩
 obtain ⟨x1, x2⟩ := sliceCells_of hs0
 have hzb : Nat.beq zv.cells.length ei.size = true := by rw [hzl, hsz, Nat.beq_refl]
 have hx0 : appendX D s t t (.slice b 0 0 (.exact 0)) y = appendA D s t t (.slice b 0 0 (.exact 0)) y := rfl
 rw [hx0]
 have hsq : isSeq ti.d = true := by rw [hd]; rfl
 simp only [appendA, hti, hd, hei, hzv, isSeq, hzb, Bool.and_self, if_true, appendB, x2, y2]
 rw [hsz, x1, y1]
 cases hl2 : l2.length with
 | zero =>
  have h0 : l2 = [] := List.length_eq_zero_iff.1 hl2
  subst h0
  simp only [isSl, if_true]
  exact ⟨_, s, rfl, hs0, .inl trivial, .refl _ _, hfr⟩
 | succ m =>
  rw [hl2] at hb hbz
  have q2 : Nat.ble (0 + (m + 1)) pow48 = true := by rw [Nat.ble_eq]; omega
  have q3 : Nat.ble ((0 + (m + 1) + (0 + (m + 1)) / 4 + 600) * ei.bytes) pow48 = true := by rw [Nat.ble_eq, Nat.zero_add]; exact hb
  simp only [List.length_nil, q2, q3, Bool.and_self, if_true]
  simp only [appendC, List.flatMap_nil, List.nil_append, Nat.zero_add]
  have hso : So E (growA s s.h E.z (m + 1) (l2.flatMap E.f)).2 (growA s s.h E.z (m + 1) (l2.flatMap E.f)).1 l2 := by
   refine .inr ⟨s.nx, s.nc, m + 1, PT.setAll .nil 0 (l2.flatMap E.f), rfl, by rw [E.flat_len, hl2], by simp [growA], ?_⟩
   refine getAll_of (by rw [E.flat_len, hl2]) fun i hi => ?_
   rw [PT.get_setAll, if_pos (by rw [E.flat_len, hl2]; omega)]
   simp
  refine ⟨_, _, rfl, hso.sl, .inr ⟨hso, fun c hc => ?_⟩, ⟨fun c o hc ho => ?_, by simp [growA], rfl⟩, (growA_gro hfr (fun _ h => h) _ _ _).1⟩
  ·have : c = s.nx := by simpa [growA, blkOf] using hc
   rw [this]; exact hfr _ (Nat.le_refl _)
  ·have : c ≠ s.nx := by rintro rfl; rw [hfr _ (Nat.le_refl _)] at ho; simp at ho
   simp [growA, PT.get_set, this]
   exact ho
end
end Go.Eng

