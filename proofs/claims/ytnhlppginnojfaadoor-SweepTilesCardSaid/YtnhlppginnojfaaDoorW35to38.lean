/-
  A row's heap, with the library's tables.
  A call that answers true leaves the heap that it came to as it was; what a row asks of that.
  One element more, where a slice has no room.
  Lists in a block with room.
-/
import Derived.Test.YtnhlppginnojfaaDoorW32to34
import Derived.Test.YtnhlppginnojfaaDoorW13to14
import Derived.Lib.LaidU8T
import Derived.Test.YtnhlppginnojfaaDoorEng38
import Derived.Test.YtnhlppginnojfaaDoorEng34
import Derived.Test.YtnhlppginnojfaaDoorW15to28
set_option linter.unusedVariables false
set_option linter.unusedSimpArgs false
namespace Go.Eng
open Go.Proofs Go.RowKit
noncomputable section
variable {P : Program} {D : Tab} {α : Type}
def envL : Env := { env0 with fp := fun _ _ _ _ _ => true }
def phiT (W : World) : Phi := { phiW W with env := envL }
def tabO (cs : List AV) : AObj := .cells (optT (cs.map some) 0) cs.length (some (0, 0))
def stT (g3 g4 : Nat) (W : World) : St := { h := ((((stW W).h.del (GB + g3)).del (GB + g4)).set g3 (tabO firstC)).set g4 (tabO accC), nx := GB + W.heap.size, nc := 0, fs := [FL] }
theorem absT_ok {W : World} {v : Value} {a : AV} (h : absV W.heap.size v = some a) : VR (phiT W) a v := by
 have hb : ∀ {r : Nat}, r < W.heap.size → (phiT W).blk (GB + r) = some (r, 0) := fun h => phiW_blk h
 unfold absV at h
 split at h <;> simp at h
 ·subst h; exact .bool _
 ·subst h; exact .int _ _
 ·subst h; exact .str _
 ·subst h; exact .nilptr
 ·rename_i a
  obtain ⟨⟨h1, h2⟩, rfl⟩ := h
  obtain ⟨b, o, sp⟩ := a
  simp at h1 h2
  subst h1
  have := VR.ptr (hb h2) o
  rwa [Nat.zero_add] at this
 ·subst h; exact .nilslice
 ·subst h; exact .slice0 false _ _ (by simp)
 ·rename_i a n c
  obtain ⟨⟨h1, h2, h3⟩, rfl⟩ := h
  obtain ⟨b, o, sp⟩ := a
  simp at h1 h2
  subst h1
  have := VR.slice (hb h2) (.exact c) o (n + 1) h3
  rwa [Nat.zero_add] at this
 ·subst h; exact .nilmap
 ·subst h; exact .nilFunc
 ·subst h; exact .nilIface
structure TabsW (g3 g4 : Nat) (W : World) : Prop where
 tabs : Lib.Utf8Tabs g3 g4 W
 ne : g3 ≠ g4
 l3 : g3 < GG
 l4 : g4 < GG
 s3 : ∃ arr e fz, W.heap[g3]? = some (.cells arr e fz) ∧ arr.size = 256
 s4 : ∃ arr e fz, W.heap[g4]? = some (.cells arr e fz) ∧ arr.size = 32
theorem tabO_get {cs : List AV} {i : Nat} {a : AV} (h : (optT (cs.map some) 0).get i = some a) : cs[i]? = some a := by
 rw [optT_get] at h
 simp only [Nat.zero_le, if_true, Nat.sub_zero, List.getElem?_map, Option.join_eq_some_iff, Option.map_eq_some_iff] at h
 obtain ⟨v, h2, h3⟩ := h
 cases h3; exact h2
theorem stT_get {g3 g4 : Nat} {W : World} {b : Nat} {o : AObj} (h : (stT g3 g4 W).h.get b = some o) : b = g4 ∧ o = tabO accC ∨ b = g3 ∧ o = tabO firstC ∨ b ≠ GB + g3 ∧ b ≠ GB + g4 ∧ (stW W).h.get b = some o := by
 simp only [stT, PT.get_set, PT.get_del] at h
 by_cases e : b = g4
 ·rw [if_pos e] at h; exact .inl ⟨e, by simpa using h.symm⟩
 ·rw [if_neg e] at h
  by_cases e2 : b = g3
  ·rw [if_pos e2] at h; exact .inr (.inl ⟨e2, by simpa using h.symm⟩)
  ·rw [if_neg e2] at h
   by_cases e3 : b = GB + g4
   ·rw [if_pos e3] at h; simp at h
   ·rw [if_neg e3] at h
    by_cases e4 : b = GB + g3
    ·rw [if_pos e4] at h; simp at h
    ·rw [if_neg e4] at h; exact .inr (.inr ⟨e4, e3, h⟩)
theorem stT_keep {g3 g4 : Nat} {W : World} (hT : TabsW g3 g4 W) {b : Nat} {o : AObj} (h1 : b ≠ GB + g3) (h2 : b ≠ GB + g4) (h : (stW W).h.get b = some o) : (stT g3 g4 W).h.get b = some o := by
 have := (stW_get h).1
 have e3 : b ≠ g3 := by have := hT.l3; unfold GG at this; unfold GB at *; omega
 have e4 : b ≠ g4 := by have := hT.l4; unfold GG at this; unfold GB at *; omega
 simp only [stT, PT.get_set, PT.get_del]
 rw [if_neg e4, if_neg e3, if_neg h2, if_neg h1]; exact h
theorem relT {g3 g4 : Nat} {W : World} (hT : TabsW g3 g4 W) : Rel (phiT W) (stT g3 g4 W) W := by
 have hG3 := hT.l3
 have hG4 := hT.l4
 have hlt : ∀ b o, (stW W).h.get b = some o → ¬ b < GG := fun b o h => by
  have := (stW_get h).1
  unfold GG; unfold GB at this; omega
 have hblk : ∀ b, ¬ b < GG → (phiT W).blk b = if GB ≤ b ∧ b < GB + W.heap.size then some (b - GB, 0) else none := fun b h => by
  show (if b < GG then _ else _) = _
  rw [if_neg h]
 have hglob : ∀ g, g < GG → (phiT W).blk g = some (g, 0) := fun g h => by
  show (if g < GG then _ else _) = _
  rw [if_pos h]
 have htab : ∀ {g : Nat} {cs : List AV}, g < GG → (∃ arr e fz, W.heap[g]? = some (.cells arr e fz) ∧ arr.size = cs.length) → (∀ i a, cs[i]? = some a → ∃ k n, a = .int k n ∧ W.cell? ⟨g, i, none⟩ = some (.int k n)) →
   ∃ r sh ro, (phiT W).blk g = some (r, sh) ∧ W.heap[r]? = some ro ∧ OR (phiT W) sh (tabO cs) ro := by
  intro g cs hg hs hc
  obtain ⟨arr, e, fz, h1, h2⟩ := hs
  refine ⟨g, 0, _, hglob g hg, h1, .rom ⟨by omega, fun i a hi ha => ?_⟩⟩
  obtain ⟨k, n, rfl, h3⟩ := hc i a (tabO_get ha)
  refine ⟨.int k n, ?_, .int _ _⟩
  rw [Nat.zero_add]
  simpa [World.cell?, h1] using h3
 refine ⟨fun b o h => .inr ?_, fun b b' r sh sh' h h' e e' => ?_, fun b h => ?_, fun _ _ => rfl, hglob, by simp [stT], fun f h => ?_⟩
 ·rcases stT_get h with ⟨rfl, rfl⟩ | ⟨rfl, rfl⟩ | ⟨n1, n2, h⟩
  ·refine htab hG4 (by simpa [accC] using hT.s4) fun i a ha => ?_
   simp only [accC, List.getElem?_map, Option.map_eq_some_iff] at ha
   obtain ⟨c, hc, rfl⟩ := ha
   obtain ⟨hi, rfl⟩ : i < 32 ∧ i = c := by
    rw [List.getElem?_eq_some_iff] at hc
    obtain ⟨h1, h2⟩ := hc
    simp at h1 h2
    exact ⟨h1, h2⟩
   refine ⟨_, _, rfl, ?_⟩
   have := hT.tabs.2 (i / 2) (by omega)
   split
   ·rename_i e; rw [show i = 2 * (i / 2) by omega]; rw [show 2 * (i / 2) / 2 = i / 2 by omega]; exact this.1
   ·rename_i e
    have e2 : i = 2 * (i / 2) + 1 := by omega
    have h2 := this.2
    rw [← e2] at h2; exact h2
  ·refine htab hG3 (by simpa [firstC] using hT.s3) fun i a ha => ?_
   simp only [firstC, List.getElem?_map, Option.map_eq_some_iff] at ha
   obtain ⟨c, hc, rfl⟩ := ha
   obtain ⟨hi, rfl⟩ : i < 256 ∧ i = c := by
    rw [List.getElem?_eq_some_iff] at hc
    obtain ⟨h1, h2⟩ := hc
    simp at h1 h2
    exact ⟨h1, h2⟩
   exact ⟨_, _, rfl, hT.tabs.1 i hi⟩
  ·obtain ⟨hb, arr, e, fz, h1, rfl⟩ := stW_get h
   have hr := (Array.getElem?_eq_some_iff.1 h1).1
   refine ⟨b - GB, 0, _, ?_, h1, .rom ⟨by omega, fun i a hi ha => ?_⟩⟩
   ·rw [hblk b (hlt b _ h), if_pos (by omega)]
   ·rw [optT_get] at ha
    simp only [Nat.zero_le, if_true, Nat.sub_zero, List.getElem?_map, Option.join_eq_some_iff, Option.map_eq_some_iff] at ha
    obtain ⟨v, h2, h3⟩ := ha
    exact ⟨v, by rw [Nat.zero_add]; simpa using h2, absT_ok h3⟩
 ·have g : ∀ {b : Nat} {r sh : Nat}, ((stT g3 g4 W).h.get b).isSome = true → (phiT W).blk b = some (r, sh) → (b = g4 ∧ r = g4) ∨ (b = g3 ∧ r = g3) ∨ (b = GB + r ∧ r ≠ g3 ∧ r ≠ g4) := fun {b r sh} h e => by
   obtain ⟨o, ho⟩ := Option.isSome_iff_exists.1 h
   rcases stT_get ho with ⟨rfl, _⟩ | ⟨rfl, _⟩ | ⟨n1, n2, h⟩
   ·rw [hglob _ hG4] at e; simp at e; exact .inl ⟨rfl, e.1.symm⟩
   ·rw [hglob _ hG3] at e; simp at e; exact .inr (.inl ⟨rfl, e.1.symm⟩)
   ·rw [hblk b (hlt b _ h)] at e
    split at e
    ·simp at e; exact .inr (.inr ⟨by omega, by omega, by omega⟩)
    ·simp at e
  have hne := hT.ne
  rcases g h e with ⟨a1, a2⟩ | ⟨a1, a2⟩ | ⟨a1, a2, a3⟩ <;> rcases g h' e' with ⟨b1, b2⟩ | ⟨b1, b2⟩ | ⟨b1, b2, b3⟩ <;> omega
 ·have h' : GB + W.heap.size ≤ b := h
  rw [hblk b (by unfold GG; unfold GB at h'; omega), if_neg (by omega)]
 ·have : f = FL := by simpa [stT] using h
  subst this
  show FL.holds envL
  rfl
theorem stT_own {g3 g4 : Nat} (W : World) (b : Nat) : ownB (stT g3 g4 W).h b = false := by
 unfold ownB
 split
 ·rfl
 ·rename_i o hno ho
  rcases stT_get ho with ⟨_, rfl⟩ | ⟨_, rfl⟩ | ⟨_, _, h⟩
  ·exact absurd rfl (hno _ _ _)
  ·exact absurd rfl (hno _ _ _)
  ·obtain ⟨_, arr, e, fz, _, rfl⟩ := stW_get h
   exact absurd rfl (hno _ _ _)
 ·rfl
theorem rd_tab {s : St} {b : Nat} {cs : List AV} (h : s.h.get b = some (tabO cs)) : Rd s b 0 cs := by
 refine ⟨_, _, _, h, by omega, getAll_of rfl fun i hi => ?_⟩
 rw [Nat.zero_add, optT_get]
 simp [hi]
theorem stT_tabs {g3 g4 : Nat} {W : World} (hT : TabsW g3 g4 W) : Tabs g3 g4 (stT g3 g4 W) := by
 refine ⟨rd_tab ?_, rd_tab ?_, by simp [stT]⟩
 ·simp only [stT, PT.get_set]; rw [if_neg hT.ne, if_pos trivial]
 ·simp only [stT, PT.get_set]; rw [if_pos trivial]
theorem Rd.toT {g3 g4 : Nat} {W : World} (hT : TabsW g3 g4 W) {b o : Nat} {cs : List AV} (h : Rd (stW W) b o cs) {a : AV} (ha : cs[0]? = some a) (hn : ∀ n, a ≠ .int .u8 n) : Rd (stT g3 g4 W) b o cs := by
 have h0 : 0 < cs.length := (List.getElem?_eq_some_iff.1 ha).1
 obtain ⟨c, n, tl, h1, h2, h3⟩ := h
 have key : ∀ g, g < GG → (∃ arr e fz, W.heap[g]? = some (.cells arr e fz) ∧ ∀ i, i < arr.size → ∃ k, arr[i]? = some (.int .u8 k)) → b ≠ GB + g := by
  rintro g hg ⟨arr, e, fz, q1, q2⟩ rfl
  obtain ⟨_, arr', e', fz', q3, q4⟩ := stW_get h1
  rw [Nat.add_sub_cancel_left, q1] at q3
  simp at q3
  obtain ⟨rfl, _, _⟩ := q3
  cases q4
  have g4 := getAll_part h3 0 1 (by omega)
  have e0 : (cs.drop 0).take 1 = [a] := by
   cases cs with
   | nil => simp at h0
   | cons x r => simp at ha; simp [ha]
  rw [e0] at g4
  simp only [PT.getAll] at g4
  cases hx : (optT (arr.toList.map (absV W.heap.size)) 0).get (o + 0) with
  | none => rw [hx] at g4; simp at g4
  | some y =>
   rw [hx] at g4
   have : y = a := by simpa using g4
   subst this
   rw [optT_get] at hx
   simp only [Nat.zero_le, if_true, Nat.sub_zero, List.getElem?_map, Option.join_eq_some_iff, Option.map_eq_some_iff] at hx
   obtain ⟨v, h4, h5⟩ := hx
   have h4' : arr[o + 0]? = some v := by simpa using h4
   obtain ⟨k, hk⟩ := q2 (o + 0) (Array.getElem?_eq_some_iff.1 h4').1
   rw [hk] at h4'
   simp at h4'
   subst h4'
   simp [absV] at h5
   exact hn k h5.symm
 have k3 : b ≠ GB + g3 := key g3 hT.l3 (by
  obtain ⟨arr, e, fz, q1, q2⟩ := hT.s3
  refine ⟨arr, e, fz, q1, fun i hi => ⟨Lib.firstT i, ?_⟩⟩
  have := hT.tabs.1 i (by omega)
  simpa [World.cell?, q1] using this)
 have k4 : b ≠ GB + g4 := key g4 hT.l4 (by
  obtain ⟨arr, e, fz, q1, q2⟩ := hT.s4
  refine ⟨arr, e, fz, q1, fun i hi => ?_⟩
  have h5 := hT.tabs.2 (i / 2) (by omega)
  by_cases hp : i % 2 = 0
  ·refine ⟨Lib.accLo (i / 2), ?_⟩
   have := h5.1
   rw [show 2 * (i / 2) = i by omega] at this
   simpa [World.cell?, q1] using this
  ·refine ⟨Lib.accHi (i / 2), ?_⟩
   have := h5.2
   rw [show 2 * (i / 2) + 1 = i by omega] at this
   simpa [World.cell?, q1] using this)
 exact ⟨c, n, tl, stT_keep hT k3 k4 h1, h2, h3⟩
theorem Sl.toT {g3 g4 : Nat} {W : World} (hT : TabsW g3 g4 W) {E : Enc α} {x : AV} {l : List α} (h : Sl E (stW W) x l) {v : Value} (hv : absV W.heap.size v = some x) (hn : ∀ a c, (E.f a)[0]? = some c → ∀ n, c ≠ .int .u8 n) : Sl E (stT g3 g4 W) x l := by
 rcases h with h | ⟨b, o, n, cap, rfl, hl, hr⟩
 ·exact .inl h
 ·cases l with
  | nil =>
   have hp := E.pos
   have h0 : n * E.z = 0 := hl.symm
   have : n = 0 := by
    rcases Nat.mul_eq_zero.1 h0 with h | h
    ·exact h
    ·omega
   subst this
   unfold absV at hv
   split at hv <;> simp at hv
  | cons a r =>
   refine .inr ⟨b, o, n, cap, rfl, hl, ?_⟩
   have hz := E.pos
   have ha : ((a :: r).flatMap E.f)[0]? = (E.f a)[0]? := by
    simp only [List.flatMap_cons]
    rw [List.getElem?_append_left (by rw [E.len]; exact hz)]
   cases hc : (E.f a)[0]? with
   | none =>
    rw [List.getElem?_eq_none_iff, E.len] at hc
    omega
   | some c => exact hr.toT hT (ha.trans hc) (hn a c hc)
end
end Go.Eng

namespace Go.Eng
open Go Go.Proofs Go.WideShapes Go.ChangeShapes Go.RowKit
noncomputable section
variable {P : Program} {D : Tab} {H : Type} {enc : TypeId × Value → H}
theorem CallsA.topT {g3 g4 : Nat} {g : FuncId} {args : List AV} {W : World} (hT : TabsW g3 g4 W) (h : CallsA P g args (stT g3 g4 W) fun v _ => v = .bool true) {vals : List Value} (hv : VRs (phiT W) args vals) :
  Calls P g vals.toArray W fun e w' => e = .returned (.bool true) ∧ Below W.heap.size W w' := by
 intro cs
 obtain ⟨v, s', rfl, φ', u, w', fr, q1, q2, q3, q4, q5, q6⟩ := h (phiT W) vals W cs (relT hT) hv
 cases q3
 exact ⟨.returned (.bool true), w', fr, ⟨rfl, ⟨q1.os, q1.tape, q1.out, q1.size, fun r hr => q1.keep r hr fun b sh hb => by rw [stT_own] at hb; simp at hb⟩⟩, q4, q5, q6⟩
theorem post_of_below {f : Func} {s : ChangeSpec} {apart fresh handsOn again : Bool} {W W' : World} {args : Array Value} {v : Value} {ds gs : List (DataW H)} {before pa pv : List MemPlace}
  (hW : DataW.Whole enc P f.params.toList s.vars apart W args.toList ds gs before)
  (hres : ∀ (b : Nat) (sp : Nat → Bool) (hd : Bool), DataW.TrodAll enc P W' b sp hd f.resultTypes.toList (v.resultList f.resultTypes.size) (s.fn H (ds ++ gs)).results [])
  (hargs : ∀ sp : Nat → Bool, (∀ p ∈ before, sp p.block = true) → DataW.TrodAll enc P W' 0 sp true f.params.toList args.toList (s.fn H (ds ++ gs)).args pa)
  (hvars : ∀ sp : Nat → Bool, (∀ p ∈ before, sp p.block = true) → DataW.TrodVars enc P W' sp s.vars (s.fn H (ds ++ gs)).vars pv)
  (hps : before = pa ++ pv) (hk : Below W.heap.size W W')
  (hok : ∀ (j : Nat) (t : TypeId) (r : Value), f.resultTypes[j]? = some t → (v.resultList f.resultTypes.size)[j]? = some r → Value.okWide P W' .any 0 t r) :
  s.post enc P f apart fresh handsOn again W args v W' := by
 have hold : ∀ p ∈ before, (fun b => decide (b < W.heap.size)) p.block = true := fun p hp => by simpa using hW.lt p hp
 refine ⟨ds, gs, before, [], pa, pv, hW, hres _ _ _, hargs _ hold, hvars _ hold, World.keptBut_mono (fun p hp => ⟨hp, ?_⟩) (hk.frame (· ∈ before)), fun _ => ?_⟩
 ·rw [hps, List.mem_append] at hp
  exact Or.inr hp
 ·have hlt := hW.lt
  obtain ⟨_, _, _, _, _, hz, hn⟩ := hW
  refine ⟨hok, _, _, ([] ++ pa) ++ pv, ⟨[] ++ pa, pv, trodAll_append (hargs _ (fun _ _ => rfl)) (hres _ _ _), hvars _ (fun _ _ => rfl), rfl, ?_, ?_⟩, ?_⟩
  ·intro b off hp
   have hp' : (.cell b off : MemPlace) ∈ before := by rw [hps]; simpa using hp
   rw [hk.frozen (hlt _ hp')]
   exact hz b off hp'
  ·intro ha
   have := hn ha
   rw [hps] at this
   simpa using this
  ·intro p hp _
   rw [hps]
   simpa using hp
theorem below_all (hl : laidOutB P = true) {W W' : World} (hk : Below W.heap.size W W') : ∀ {ts : List TypeId} {vs : List Value} {ds : List (DataW H)} {ps : List MemPlace}, (∀ t, t ∈ ts → P.readableRec t = true ∧ t < P.types.size) →
  DataW.TrodAll enc P W 0 (fun _ => true) true ts vs ds ps → (∀ p ∈ ps, p.block < W.heap.size) → ∀ sp : Nat → Bool, (∀ p ∈ ps, sp p.block = true) → DataW.TrodAll enc P W' 0 sp true ts vs ds ps
 | [], [], [], ps, _, h, _, _, _ => h
 | t :: ts, v :: vs, d :: ds, ps, hr, h, hlt, sp, hs => by
  obtain ⟨p, q, h1, h2, rfl⟩ := h
  refine ⟨p, q, ?_, below_all hl hk (fun u hu => hr u (List.mem_cons_of_mem _ hu)) h2 (fun x hx => hlt x (List.mem_append.2 (.inr hx))) sp (fun x hx => hs x (List.mem_append.2 (.inr hx))), rfl⟩
  exact WideElems.Trod_stays hl (hr t (List.mem_cons_self ..)).1 (hr t (List.mem_cons_self ..)).2 h1 (fun x hx => hk.same (hlt x (List.mem_append.2 (.inl hx)))) (fun x hx => hs x (List.mem_append.2 (.inl hx)))
 | [], _ :: _, _, _, _, h, _, _, _ => by simp [DataW.TrodAll] at h
 | [], [], _ :: _, _, _, h, _, _, _ => by simp [DataW.TrodAll] at h
 | _ :: _, [], _, _, _, h, _, _, _ => by simp [DataW.TrodAll] at h
 | _ :: _, _ :: _, [], _, _, h, _, _, _ => by simp [DataW.TrodAll] at h
end
end Go.Eng

namespace Go.Eng
noncomputable section
variable {P : Program} {D : Tab} {α : Type}
end
end Go.Eng

namespace Go.Eng
noncomputable section
variable {P : Program} {D : Tab} {α : Type}
def Room (E : Enc α) (s : St) (b N : Nat) (l : List α) : Prop := ∃ cs, Own s b cs ∧ cs.length = N * E.z ∧ l.length ≤ N ∧ cs.take (l.length * E.z) = l.flatMap E.f
theorem Room.sl {E : Enc α} {s : St} {b N : Nat} {l : List α} (h : Room E s b N l) : Sl E s (.slice b 0 l.length (.exact N)) l := by
 obtain ⟨cs, ho, hl, hn, ht⟩ := h
 obtain ⟨c, h1, h2⟩ := ho
 refine .inr ⟨b, 0, l.length, .exact N, rfl, E.flat_len l, c, cs.length, none, h1, ?_, ?_⟩
 ·rw [E.flat_len, hl, Nat.zero_add]; exact Nat.mul_le_mul_right _ hn
 ·rw [← ht]
  have hle : l.length * E.z ≤ cs.length := by rw [hl]; exact Nat.mul_le_mul_right _ hn
  have := getAll_part h2 0 (l.length * E.z) (by omega)
  simpa [Nat.min_eq_left hle] using this
theorem Room.make {E : Enc α} {s s' : St} {b N : Nat} {zv : AV} (h : NewO s (cellsO (zeros zv.cells N)) b s') (hz : zv.cells.length = E.z) : Room E s' b N [] :=
 ⟨_, h.own, by rw [zeros_len, hz], by simp, by simp⟩
theorem Room.fwd {E : Enc α} {s s' : St} {b N : Nat} {l : List α} {M : List Nat} (h : Room E s b N l) (hf : Frw M s s') (hb : b ∉ M) : Room E s' b N l := by
 obtain ⟨cs, ho, r⟩ := h
 exact ⟨cs, ho.fwd hf hb, r⟩
theorem Room.app {E : Enc α} {s : St} {b N : Nat} {l : List α} {a : α} {e : List AV} {t et : TypeId} {ti ei : TyI} {m : Nat} {zv : AV} (h : Room E s b N l) (hN : l.length < N) (hti : D.ty.get t = some ti) (hd : ti.d = .slice et) (hei : D.ty.get et = some ei) (hsz : ei.size = E.z) (hzv : ei.zero = some zv) (hzl : zv.cells.length = E.z)
  (h1 : ones e = true) (hR : Rd s m 0 e) (he : e = E.f a) (hb : (l.length + 1 + (l.length + 1) / 4 + 600) * ei.bytes ≤ pow48) (hbz : l.length + 1 ≤ pow48) (hfr : Fr s) :
  ∃ s', appendX D s t t (.slice b 0 l.length (.exact N)) (.slice m 0 1 (.exact 1)) = some (.slice b 0 (l.length + 1) (.exact N), s') ∧ Room E s' b N (l ++ [a]) ∧ Frw [b] s s' ∧ Fr s' ∧ s'.nx = s.nx := by
 subst he
 have hs := h.sl
 obtain ⟨cs, ho, hl, hn, ht⟩ := h
 obtain ⟨c0, n0, tl0, r1, r2, r3⟩ := hR
 have hel := E.len a
 have hnew : sliceCells s.h ei.size (.slice m 0 1 (.exact 1)) = some (E.f a) := by
  have : Nat.ble (0 + 1 * ei.size) n0 = true := by rw [Nat.ble_eq]; omega
  simp only [sliceCells, r1, this, if_true]
  rw [hsz, Nat.one_mul, ← hel]; exact r3
 obtain ⟨x1, _⟩ := sliceCells_of hs
 have hzb : Nat.beq zv.cells.length ei.size = true := by rw [hzl, hsz, Nat.beq_refl]
 rw [show appendX D s t t (.slice b 0 l.length (.exact N)) (.slice m 0 1 (.exact 1)) = appendA D s t t (.slice b 0 l.length (.exact N)) (.slice m 0 1 (.exact 1)) from rfl]
 have e1 : avLen (.slice b 0 l.length (.exact N)) = some l.length := rfl
 have e2 : sliceCells s.h ei.size (.slice b 0 l.length (.exact N)) = some (l.flatMap E.f) := by rw [hsz]; exact x1
 have e3 : avLen (.slice m 0 1 (.exact 1)) = some 1 := rfl
 have q1 : Nat.ble ((l.length + (0 + 1) + (l.length + (0 + 1)) / 4 + 600) * ei.bytes) pow48 = true := by rw [Nat.ble_eq]; exact hb
 have q2 : Nat.ble (l.length + (0 + 1)) pow48 = true := by rw [Nat.ble_eq]; exact hbz
 have q3 : Nat.ble (l.length + (0 + 1)) N = true := by rw [Nat.ble_eq]; omega
 have hoff : l.length * E.z + E.z ≤ cs.length := by
  rw [hl]
  have := Nat.mul_le_mul_right E.z (show l.length + 1 ≤ N from hN)
  rwa [Nat.add_mul, Nat.one_mul] at this
 obtain ⟨s', w1, w2, w3, w4, _, w6⟩ := ho.wrN (l.length * E.z) (E.f a) h1 (by rw [hel]; exact hoff)
 have w1' : writeAll s b (0 + l.length * ei.size) (E.f a) = some s' := by rw [hsz, Nat.zero_add]; exact w1
 simp only [appendA, hti, hd, hei, hzv, isSeq, hzb, Bool.and_self, if_true, appendB, e1, e2, e3, hnew, q1, q2, appendC, q3, w1']
 have hle : l.length * E.z ≤ cs.length := by omega
 have htk : (cs.take (l.length * E.z)).length = l.length * E.z := by rw [List.length_take, Nat.min_eq_left hle]
 refine ⟨s', rfl, ⟨_, w2, ?_, by simp; omega, ?_⟩, w3, hfr.wr ho.there w4 w6, w4⟩
 ·rw [← hl]; simp [splice, hel]; omega
 ·rw [List.flatMap_append, ← ht]
  have e : (l ++ [a]).length * E.z = (cs.take (l.length * E.z) ++ E.f a).length := by simp [hel, htk, Nat.add_mul]
  rw [e]
  simp only [splice]
  rw [List.take_left']
  ·simp
  ·rfl
end
end Go.Eng

