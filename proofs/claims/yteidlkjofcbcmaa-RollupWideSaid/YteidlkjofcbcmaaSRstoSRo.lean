/-
  The library's sort of edges' tallies lies in the program.
  The sums of a range: sorting.
  The sums of a range: how they are kept while one goes through a rollup.
  The sums of a range: the walk.
  A range's sums, as the program tells them.
  The reference's own sums of bars.
  Lists of edges' sums: one more is put to them; plain laws.
  One more edge's tally is put to a list of them: the walk.
  Lists of edges' sums: put together, compared.
  A call's tally.
  Calls put to a rollup, a range of them: plain laws, and a rollup's own blocks.
-/
import Derived.Shelf.SlSortCmp.NoneTotal
import Derived.Test.YteidlkjofcbcmaaProg
import Derived.Test.YteidlkjofcbcmaaSPatoSRe
import Derived.Test.YteidlkjofcbcmaaSVatoSVd
import Derived.Test.YteidlkjofcbcmaaSVr1to3
import Derived.Test.YteidlkjofcbcmaaW15to23
import Derived.Test.YteidlkjofcbcmaaSVr4to2
namespace Go.Proofs
open Go.Shelf
def Try.sortET_ren : Go.Shelf.Ren := ⟨fun | 6 => 45 | 15 => 59 | 14 => 60 | 28 => 81 | 29 => 82 | 20 => 69 | 21 => 83 | 22 => 84 | 23 => 85 | 24 => 86 | 25 => 87 | 26 => 88 | 27 => 89 | 46 => 100 | 47 => 95 | 48 => 96 | 49 => 101 | 50 => 102 | 57 => 105 | n => n, fun | 22 => 26 | 24 => 62 | 25 => 93 | 3 => 3 | 39 => 116 | 0 => 0 | 53 => 139 | 55 => 46 | 4 => 4 | 46 => 131 | 45 => 130 | 50 => 136 | 5 => 5 | 9 => 9 | 66 => 148 | 70 => 152 | 76 => 157 | 77 => 158 | n => n, fun | n => n⟩
theorem Try.sortET : Go.Proofs.SlLaysF0.n6 Try.prog Try.sortET_ren := {
 mixed := by kernel_rfl
 f6 := ⟨Try.f45.name, by decide, Try.func45.trans (congrArg some (by kernel_rfl))⟩
 f14 := ⟨Try.f60.name, by decide, Try.func60.trans (congrArg some (by kernel_rfl))⟩
 f15 := Try.func59.trans (congrArg some (by kernel_rfl))
 f20 := ⟨Try.f69.name, by decide, Try.func69.trans (congrArg some (by kernel_rfl))⟩
 f21 := ⟨Try.f83.name, by decide, Try.func83.trans (congrArg some (by kernel_rfl))⟩
 f22 := ⟨Try.f84.name, by decide, Try.func84.trans (congrArg some (by kernel_rfl))⟩
 f23 := ⟨Try.f85.name, by decide, Try.func85.trans (congrArg some (by kernel_rfl))⟩
 f24 := ⟨Try.f86.name, by decide, Try.func86.trans (congrArg some (by kernel_rfl))⟩
 f25 := ⟨Try.f87.name, by decide, Try.func87.trans (congrArg some (by kernel_rfl))⟩
 f26 := ⟨Try.f88.name, by decide, Try.func88.trans (congrArg some (by kernel_rfl))⟩
 f27 := ⟨Try.f89.name, by decide, Try.func89.trans (congrArg some (by kernel_rfl))⟩
 f28 := Try.func81.trans (congrArg some (by kernel_rfl))
 f29 := Try.func82.trans (congrArg some (by kernel_rfl))
 f46 := ⟨Try.f100.name, by decide, Try.func100.trans (congrArg some (by kernel_rfl))⟩
 f47 := Try.func95.trans (congrArg some (by kernel_rfl))
 f48 := Try.func96.trans (congrArg some (by kernel_rfl))
 f49 := ⟨Try.f101.name, by decide, Try.func101.trans (congrArg some (by kernel_rfl))⟩
 f50 := ⟨Try.f102.name, by decide, Try.func102.trans (congrArg some (by kernel_rfl))⟩
 f57 := ⟨Try.f105.name, by decide, Try.func105.trans (congrArg some (by kernel_rfl))⟩
 t0 := Try.underlying0
 a0 := Try.isAgg0
 z0 := Try.sizeOf0
 v0 := Try.zeroValue0
 t3 := Try.underlying3
 a3 := Try.isAgg3
 z3 := Try.sizeOf3
 v3 := Try.zeroValue3
 t4 := Try.underlying4
 a4 := Try.isAgg4
 z4 := Try.sizeOf4
 v4 := Try.zeroValue4
 t5 := Try.underlying5
 a5 := Try.isAgg5
 z5 := Try.sizeOf5
 v5 := Try.zeroValue5
 t9 := Try.underlying9
 a9 := Try.isAgg9
 z9 := Try.sizeOf9
 v9 := Try.zeroValue9
 t22 := Try.underlying26
 a22 := Try.isAgg26
 z22 := Try.sizeOf26
 v22 := Try.zeroValue26
 t25 := Try.underlying93
 a25 := Try.isAgg93
 z25 := Try.sizeOf93
 v25 := Try.zeroValue93
 t39 := Try.underlying116
 a39 := Try.isAgg116
 z39 := Try.sizeOf116
 v39 := Try.zeroValue116
 t45 := Try.underlying130
 a45 := Try.isAgg130
 z45 := Try.sizeOf130
 v45 := Try.zeroValue130
 t46 := Try.underlying131
 a46 := Try.isAgg131
 z46 := Try.sizeOf131
 v46 := Try.zeroValue131
 t50 := Try.underlying136
 a50 := Try.isAgg136
 z50 := Try.sizeOf136
 v50 := Try.zeroValue136
 t53 := Try.underlying139
 a53 := Try.isAgg139
 z53 := Try.sizeOf139
 v53 := Try.zeroValue139
 t55 := Try.underlying46
 a55 := Try.isAgg46
 z55 := Try.sizeOf46
 v55 := Try.zeroValue46
 t66 := Try.underlying148
 a66 := Try.isAgg148
 z66 := Try.sizeOf148
 v66 := Try.zeroValue148
 t70 := Try.underlying152
 a70 := Try.isAgg152
 z70 := Try.sizeOf152
 v70 := Try.zeroValue152
 t76 := Try.underlying157
 a76 := Try.isAgg157
 z76 := Try.sizeOf157
 v76 := Try.zeroValue157
 t77 := Try.underlying158
 a77 := Try.isAgg158
 z77 := Try.sizeOf158
 v77 := Try.zeroValue158 }
end Go.Proofs

namespace Go.Eng.S
open Go Go.Eng Go.Proofs
set_option linter.constructorNameAsVariable false
noncomputable section
attribute [local irreducible] bsel
theorem swoSS : Sort.SWO (ltOf fun x y : ET => cmpSS x.1 y.1) := by
 have e : ∀ x y : ET, ltOf (fun x y : ET => cmpSS x.1 y.1) x y = ssLt x.1 y.1 := fun x y => cmpSS_lt x.1 y.1
 refine ⟨fun x => ?_, fun x y z h1 h2 => ?_, fun x y z h1 h2 => ?_⟩
 ·rw [e]; exact ssLt_irrefl _
 ·rw [e] at *; exact ssLt_trans h1 h2
 ·rw [e] at *
  cases h : ssLt x.1 z.1 with
  | false => rfl
  | true =>
   by_cases h3 : ssLt y.1 x.1 = true
   ·rw [ssLt_trans h3 h] at h2; simp at h2
   ·have h3 : ssLt y.1 x.1 = false := by simpa using h3
    rw [ssLt_total h1 h3] at h
    rw [h] at h2; simp at h2
theorem Sort_ok {s : St} {x : AV} {l : List ET} (hx : So etE s x l) (h1 : ∀ y, y ∈ l → ones (etF y) = true) (hsz : l.length < 4611686018427387904) (hfr : Fr s) :
  CallsA P F.slices_SortFunc_sl_api_EdgeTally_api_EdgeTally [x, .func F.rollup_order [] []] s fun v s' => v = .tuple [] ∧ ∃ l', l'.Perm l ∧ l'.Pairwise (fun y z => 0 ≤ cmpSS z.1 y.1) ∧ So etE s' x l' ∧ Frw (blkOf x) s s' ∧ Fr s' := by
 rcases hx with ⟨rfl, h2⟩ | ⟨b, k, n, c, rfl, g1, g2, g3⟩
 ·have hl : l = [] := by
   cases l with
   | nil => rfl
   | cons a r => simp [etE, etF] at h2
  subst hl
  refine (CallsA.sort0 Try.sortET (x := .nilslice) rfl).mono ?_
  rintro v s' ⟨rfl, rfl⟩
  exact ⟨rfl, [], .refl _, by simp, .nil _ _, .refl _ _, hfr⟩
 ·have hn : l.length = n := by
   rw [etE.flat_len] at g1
   exact Nat.eq_of_mul_eq_mul_right (by decide) g1
  cases n with
  | zero =>
   have hl : l = [] := List.length_eq_zero_iff.1 hn
   subst hl
   refine (CallsA.sort0 Try.sortET (x := .slice b 0 0 (.var k 0)) rfl).mono ?_
   rintro v s' ⟨rfl, rfl⟩
   exact ⟨rfl, [], .refl _, by simp, .inr ⟨b, k, 0, c, rfl, g1, g2, g3⟩, .refl _ _, hfr⟩
  | succ n =>
   have hone : ∀ y : ET, y ∈ l → ones (etF y) = true := h1
   let E' : Enc { y : ET // ones (etF y) = true } := ⟨fun y => etF y.1, 9, by decide, fun _ => rfl⟩
   obtain ⟨l2, e1⟩ : ∃ l2 : List { y : ET // ones (etF y) = true }, l2.map Subtype.val = l := by
    refine ⟨l.attach.map fun y => ⟨y.1, h1 y.1 y.2⟩, ?_⟩
    rw [List.map_map]
    exact List.attach_map_subtype_val l
   have ef : ∀ l3 : List { y : ET // ones (etF y) = true }, l3.flatMap E'.f = (l3.map Subtype.val).flatMap etE.f := by
    intro l3
    rw [List.flatMap_map]
    rfl
   have hO : Sort.SWO (ltOf fun x y : { y : ET // ones (etF y) = true } => cmpSS x.1.1 y.1.1) := swo_el (fun y : { y : ET // ones (etF y) = true } => y.1) swoSS
   have hsort := CallsA.sortK hD Try.sortET E' (fun w => by exact run_agg hD ty.api_EdgeTally w) (fun w => by exact run_size hD ty.api_EdgeTally w) (fun y => y.2) (fun _ => True) (fun x y => cmpSS x.1.1 y.1.1) hO (g := F.rollup_order) (fi := fnI Try.f46) (by kernel_rfl) (caps := []) (s := s) (b := b) (o := 0) (n := n + 1) (cap := .var k 0) g2 rfl (l := l2) (by rw [← hn, ← e1]; simp) (Nat.le_of_eq (by simp [E', etE])) (by rw [ef, e1]; exact g3) (by omega) (by omega) (fun _ _ => trivial)
    (fun s0 _ x y _ _ => (order_ok x.1 y.1 x.2 y.2 s0).a)
   refine hsort.mono ?_
   rintro v s' ⟨rfl, l3, p1, p2, rfl⟩
   have hlen : (l3.map Subtype.val).length = n + 1 := by rw [List.length_map, p1.length_eq, ← hn, ← e1]; simp
   refine ⟨rfl, l3.map Subtype.val, by rw [← e1]; exact p1.map _, ?_, .inr ⟨b, k, n + 1, _, rfl, by rw [etE.flat_len, hlen], by simp only [PT.get_set_same]; rfl, ?_⟩, ⟨fun d o hd ho => ?_, Nat.le_refl _, rfl⟩, fun d hd => ?_⟩
   ·exact List.pairwise_map.2 p2
   ·rw [ef]
    refine getAll_of (by rw [etE.flat_len, hlen]) fun i hi => ?_
    have : (((l3.map Subtype.val).flatMap etE.f)).length = (n + 1) * etE.z := by rw [etE.flat_len, hlen]
    rw [PT.get_setAll, if_pos (by omega)]
    simp
   ·have : d ≠ b := by simpa [blkOf] using hd
    simp only [PT.get_set]; rw [if_neg this]; exact ho
   ·have hd : s.nx ≤ d := hd
    have : d ≠ b := by rintro rfl; rw [hfr d hd] at g2; simp at g2
    simp only [PT.get_set]; rw [if_neg this]; exact hfr d hd
end
end Go.Eng.S

namespace Go.Eng.S
open Go Go.Eng Go.Proofs
set_option linter.constructorNameAsVariable false
noncomputable section
attribute [local irreducible] bsel
theorem _root_.Go.Eng.IterS.sub {κ : Type} [DecidableEq κ] {f : κ → AV} {s : St} {it b : Nat} {m rem : List (κ × AV)} (h : IterS f s it b m rem) : ∀ p, p ∈ rem → p ∈ m := by
 obtain ⟨es, clock, seen, h1, rfl, h3, h4, h5, rfl⟩ := h
 intro p hp
 simp only [kv, List.mem_map, List.mem_filter] at hp ⊢
 obtain ⟨e, ⟨he, _⟩, rfl⟩ := hp
 exact ⟨e, he, rfl⟩
theorem _root_.Go.Eng.IterS.noCells {κ : Type} [DecidableEq κ] {f : κ → AV} {s : St} {it b : Nat} {m rem : List (κ × AV)} (h : IterS f s it b m rem) : NoCells s it := by
 obtain ⟨es, clock, seen, h1, h2, h3, h4, h5, h6⟩ := h
 intro c n tl g
 rw [h5] at g; simp at g
theorem _root_.Go.Eng.IterS.ne {κ : Type} [DecidableEq κ] {f : κ → AV} {s : St} {it b : Nat} {m rem : List (κ × AV)} (h : IterS f s it b m rem) {κ' : Type} [DecidableEq κ'] {f' : κ' → AV} {b' : Nat} {m' : List (κ' × AV)} (h' : MapS f' s b' m') : it ≠ b' := by
 rintro rfl
 obtain ⟨es, clock, seen, h1, h2, h3, h4, h5, h6⟩ := h
 obtain ⟨es', clock', g, _⟩ := h'
 rw [h5] at g; simp at g
theorem _root_.Go.Eng.IterS.src {κ : Type} [DecidableEq κ] {f : κ → AV} {s : St} {it b : Nat} {m rem : List (κ × AV)} (h : IterS f s it b m rem) (hn : (m.map (·.1)).Nodup) : MapS f s b m := by
 obtain ⟨es, clock, seen, h1, h2, h3, h4, h5, h6⟩ := h
 exact ⟨es, clock, h1, h2, hn, h4, h3⟩
theorem mget_of_mem {κ : Type} [DecidableEq κ] : ∀ {m : List (κ × AV)} {k : κ} {v : AV}, (m.map (·.1)).Nodup → (k, v) ∈ m → mget m k = some v
 | [], _, _, _, h => by simp at h
 | (a, w) :: r, k, v, hn, h => by
  simp only [List.map_cons, List.nodup_cons] at hn
  simp only [mget]
  rcases List.mem_cons.1 h with h0 | h0
  ·simp only [Prod.mk.injEq] at h0
   rw [if_pos h0.1, h0.2]
  ·have : k ≠ a := fun e => hn.1 (List.mem_map.2 ⟨(k, v), h0, e⟩)
   rw [if_neg this]
   exact mget_of_mem hn.2 h0
theorem so_beside {α : Type} {E : Enc α} {s s' : St} {x : AV} {l : List α} {M : List Nat} (h : So E s x l) (hf : Frw M s s') (hM : ∀ c, c ∈ M → NoCells s c ∨ c ∉ blkOf x) : So E s' x l := by
 refine h.beside hf fun c hc hx => ?_
 rcases hM c hc with hn | hn
 ·rcases h with ⟨rfl, _⟩ | ⟨b1, k1, n1, c1, rfl, _, q3, _⟩
  ·simp [blkOf] at hx
  ·have : c = b1 := by simpa [blkOf] using hx
   subst this
   exact hn _ _ _ q3
 ·exact hn hx
theorem so_there {α : Type} {E : Enc α} {s : St} {x : AV} {l : List α} (h : So E s x l) : ∀ c, c ∈ blkOf x → s.h.get c ≠ none := by
 rcases h with ⟨rfl, _⟩ | ⟨b1, k1, n1, c1, rfl, _, q3, _⟩
 ·simp [blkOf]
 ·intro c hc
  have : c = b1 := by simpa [blkOf] using hc
  rw [this, q3]; simp
def Apart (x y : AV) : Prop := ∀ c, c ∈ blkOf x → c ∉ blkOf y
theorem Apart.symm {x y : AV} (h : Apart x y) : Apart y x := fun c h1 h2 => h c h2 h1
structure AllS (s0 s : St) (b : Nat) (N : List (Edge × AV)) (S : Edge → GT) : Prop where
 map : MapS edgeF s b N
 some : ∀ e v, mget N e = Option.some v → ∃ z, v = (S e).1.V z ∧ SoN barE s z (S e).1.l ∧ ∀ c, c ∈ blkOf z → s0.h.get c = Option.none
 none : ∀ e, mget N e = Option.none ↔ (S e).1 = .zero
 apart : ∀ e e' z z', e ≠ e' → mget N e = Option.some ((S e).1.V z) → mget N e' = Option.some ((S e').1.V z') → Apart z z'
theorem V_inj {t : Tal} {x y : AV} (h : t.V x = t.V y) : x = y := by simpa [Tal.V] using h
theorem AllS.fwd {s0 s s' : St} {b : Nat} {N : List (Edge × AV)} {S : Edge → GT} {X : List Nat} (h : AllS s0 s b N S) (hf : Frw X s s') (hb : b ∉ X) (hX : ∀ c, c ∈ X → NoCells s c) : AllS s0 s' b N S where
 map := h.map.fwd hf hb
 some := fun e v hv => let ⟨z, h1, h2, h3⟩ := h.some e v hv; ⟨z, h1, ⟨so_beside h2.1 hf fun c hc => .inl (hX c hc), h2.2⟩, h3⟩
 none := h.none
 apart := h.apart
theorem AllS.ext {s0 s s' : St} {b : Nat} {N : List (Edge × AV)} {S : Edge → GT} (h : AllS s0 s b N S) (hf : Frw [] s s') : AllS s0 s' b N S := h.fwd hf (by simp) (by simp)
theorem AllS.look {s0 s : St} {b : Nat} {N : List (Edge × AV)} {S : Edge → GT} (h : AllS s0 s b N S) (e : Edge) : ∃ z, lookupA D s T.rollup_edges (.map b) (edgeF e) false = Option.some ((S e).1.V z) ∧ Sl barE s z (S e).1.l := by
 have hl := (MapS.lookup KE h.map ty.rollup_edges rfl ty.api_Tally rfl e).1
 cases hv : mget N e with
 | none =>
  rw [hv] at hl
  refine ⟨.nilslice, ?_, ?_⟩
  ·rw [(h.none e).1 hv]; exact hl
  ·rw [(h.none e).1 hv]; exact .nil _ _
 | some v =>
  rw [hv] at hl
  obtain ⟨z, rfl, h2, _⟩ := h.some e v hv
  exact ⟨z, hl, h2.1.sl⟩
theorem AllS.set {s0 s s' : St} {b : Nat} {N : List (Edge × AV)} {S S' : Edge → GT} (h : AllS s0 s b N S) {e : Edge} {z : AV} (hw : Frw [b] s s') (hm : MapS edgeF s' b (mset N e ((S' e).1.V z))) (hz : SoN barE s z (S' e).1.l) (hd : ∀ e' z', mget N e' = Option.some ((S e').1.V z') → e' ≠ e → Apart z' z) (hg : ∀ c, c ∈ blkOf z → s0.h.get c = Option.none) (hne : (S' e).1 ≠ .zero) (hoth : ∀ e', e' ≠ e → S' e' = S e') : AllS s0 s' b (mset N e ((S' e).1.V z)) S' where
 map := hm
 some := fun e' v hv => by
  have hb : ∀ c, c ∈ [b] → NoCells s c := fun c hc => by
   have : c = b := by simpa using hc
   rw [this]; exact h.map.noCells
  rw [mget_mset] at hv
  split at hv
  ·rename_i ee
   simp only [Option.some.injEq] at hv
   rw [ee]
   exact ⟨z, hv.symm, ⟨so_beside hz.1 hw fun c hc => .inl (hb c hc), hz.2⟩, hg⟩
  ·rename_i ee
   obtain ⟨z', g1, g2, g3⟩ := h.some e' v hv
   rw [hoth e' ee]
   exact ⟨z', g1, ⟨so_beside g2.1 hw fun c hc => .inl (hb c hc), g2.2⟩, g3⟩
 apart := fun e1 e2 z1 z2 hne h1 h2 => by
  rw [mget_mset] at h1 h2
  by_cases c1 : e1 = e
  ·by_cases c2 : e2 = e
   ·exact absurd (c1.trans c2.symm) hne
   ·rw [if_pos c1] at h1
    rw [if_neg c2, hoth e2 c2] at h2
    rw [c1] at h1
    simp only [Option.some.injEq] at h1
    rw [← V_inj h1]
    exact (hd e2 z2 h2 c2).symm
  ·rw [if_neg c1, hoth e1 c1] at h1
   by_cases c2 : e2 = e
   ·rw [if_pos c2, c2] at h2
    simp only [Option.some.injEq] at h2
    rw [← V_inj h2]
    exact hd e1 z1 h1 c1
   ·rw [if_neg c2, hoth e2 c2] at h2
    exact h.apart e1 e2 z1 z2 hne h1 h2
 none := fun e' => by
  rw [mget_mset]
  split
  ·rename_i ee
   rw [ee]
   simp [hne]
  ·rename_i ee
   rw [hoth e' ee]; exact h.none e'
theorem AllS.len {s0 s : St} {b : Nat} {N : List (Edge × AV)} {S : Edge → GT} (h : AllS s0 s b N S) {E0 : List Edge} (hE : ∀ e, (S e).1 ≠ .zero → e ∈ E0) : N.length ≤ E0.length := by
 have := nodup_length_le (a := N.map (·.1)) (b := E0) h.map.nodup fun e he => hE e fun h0 => by
  have := (h.none e).2 h0
  rw [mget_none] at this
  exact this he
 simpa using this
structure EtS (s0 s : St) (x : AV) (L : List ET) : Prop where
 so : So etE s x L
 bars : ∀ y, y ∈ L → Sl barE s y.2.2 y.2.1.l ∧ ∀ c, c ∈ blkOf y.2.2 → s0.h.get c = none
 new : ∀ c, c ∈ blkOf x → s0.h.get c = none
structure EtO (s0 s : St) (x : AV) (L : List ET) : Prop where
 et : EtS s0 s x L
 bso : ∀ y, y ∈ L → SoN barE s y.2.2 y.2.1.l
 isnil : L = [] → x = .nilslice
 apart : L.Pairwise fun y y' => Apart y.2.2 y'.2.2
 sep : ∀ y, y ∈ L → Apart y.2.2 x
theorem etF_ones {s : St} {y : ET} (h : Sl barE s y.2.2 y.2.1.l) : ones (etF y) = true := by
 have := h.onesx []
 simpa [etF, ones] using this
def etP (L : List ET) : List (Edge × Tal) := L.map fun y => (y.1, y.2.1)
def inR (a b h : Int) : Bool := decide (a ≤ h) && decide (h < b)
def accS (G : RollF) (hG : RollG G) (a b : Int) (vis : List Int) (e : Edge) : GT := gsum ((vis.filter (inR a b)).map fun h => gF G hG h e)
theorem accS_snoc {G : RollF} {hG : RollG G} {a b : Int} {vis : List Int} {h : Int} (e : Edge) : accS G hG a b (vis ++ [h]) e = if inR a b h = true then (accS G hG a b vis e).plus (gF G hG h e) else accS G hG a b vis e := by
 unfold accS
 rw [List.filter_append, List.map_append, gsum_append]
 cases hh : inR a b h with
 | true => simp [hh, gsum, GT.plus_zero]
 | false => simp [hh, gsum, GT.plus_zero]
theorem accS_ne {G : RollF} {hG : RollG G} {a b : Int} {vis : List Int} {e : Edge} (h : (accS G hG a b vis e).1 ≠ .zero) : ∃ h, G h e ≠ .zero := by
 classical
 refine Classical.byContradiction fun hn => h ?_
 have : accS G hG a b vis e = .zero := gsum_zero fun x hx => by
  obtain ⟨h', _, rfl⟩ := List.mem_map.1 hx
  refine Subtype.ext (Classical.byContradiction fun h0 => hn ⟨h', h0⟩)
 rw [this]; rfl
end
end Go.Eng.S

namespace Go.Eng.S
open Go Go.Eng Go.Proofs
set_option linter.constructorNameAsVariable false
noncomputable section
attribute [local irreducible] bsel
open Classical in
def inS (base : Edge → GT) (g : Edge → GT) (proc : List Edge) (e : Edge) : GT := if e ∈ proc then (base e).plus (g e) else base e
theorem told_of {S : Edge → GT} {N : List (Edge × AV)} (hN : (N.map (·.1)).Nodup) (hS : ∀ e, mget N e = none ↔ (S e).1 = .zero) {L : List ET} (hk : (L.map (·.1)).Perm (N.map (·.1))) (hv : ∀ y, y ∈ L → y.2.1 = (S y.1).1) (hs : L.Pairwise fun y z => 0 ≤ cmpSS z.1 y.1) : ToldL S (etP L) where
 asc := by
  have hn : (L.map (·.1)).Nodup := hk.nodup_iff.2 hN
  have hn' : L.Pairwise fun y z => y.1 ≠ z.1 := List.pairwise_map.1 hn
  refine List.pairwise_map.2 ((hs.and hn').imp fun {y z} ⟨h1, h2⟩ => ?_)
  have h3 : ssLt z.1 y.1 = false := by rw [← cmpSS_lt]; simpa using h1
  cases h : ssLt y.1 z.1 with
  | true => rfl
  | false => exact absurd (ssLt_total h h3) h2
 mem := fun e t => by
  simp only [etP, List.mem_map, Prod.mk.injEq]
  constructor
  ·rintro ⟨y, hy, rfl, rfl⟩
   refine ⟨hv y hy, ?_⟩
   rw [hv y hy]
   intro h0
   have := (hS y.1).2 h0
   rw [mget_none] at this
   exact this ((hk.mem_iff).1 (List.mem_map.2 ⟨y, hy, rfl⟩))
  ·rintro ⟨rfl, h0⟩
   have : ¬ mget N e = none := fun h => h0 ((hS e).1 h)
   rw [mget_none, Classical.not_not] at this
   obtain ⟨y, hy, rfl⟩ := List.mem_map.1 (hk.mem_iff.2 this)
   exact ⟨y, hy, rfl, hv y hy⟩
set_option maxRecDepth 4000 in
set_option maxHeartbeats 1000000 in
theorem sum_ok {s : St} {r : Nat} {fan : Int} {G : RollF} {fp : List Nat} (hR : Roll s r fan G fp) {a b : Int} {E0 : List Edge} (hE : ∀ h e, G h e ≠ .zero → e ∈ E0) (hb : (E0.length + 1 + (E0.length + 1) / 4 + 600) * 104 ≤ pow48) :
  CallsA P F.p_rollup_Rollup_sum [.ptr r 0, .int .i64 a, .int .i64 b] s fun v s' => (∃ L, EtO s s' v L ∧ ToldL (sumH G hR.good a b) (etP L)) ∧ Frw [] s s' ∧ Fr s' := by
 have hG := hR.good
 obtain ⟨m, M, h⟩ := hR
 refine CallsA.fr fun hfr => vc.p_rollup_Rollup_sum_ok ?_
 intro m1 s2 h2
 have hR2 := h.fwd h2.fwd (by simp)
 obtain ⟨it, s7, r1, r2, r3, r4, r5, r6⟩ := hR2.map.range ty.map_int64_rollup_edges rfl h2.fr
 have hgone1 : s.h.get m1 = none := h2.gone
 have hnd : (M.map (·.1)).Nodup := h.map.nodup
 refine ptrK_of ⟨_, hR2.own.ld1 1 rfl, it, s7, r1, fun s10 m11 => ∃ vis rem N, m11 = rem.length ∧ IterS hourF s10 it m M rem ∧ (vis ++ rem.map (·.1)).Perm (M.map (·.1)) ∧ AllS s s10 m1 N (accS G hG a b vis) ∧ Frw [] s s10 ∧ Fr s10, ⟨M.length, [], M, [], rfl, r2, by simp, ⟨(MapS.new h2).ext r3, fun e v hv => by simp [mget] at hv, fun e => by simp [mget, accS, gsum, GT.zero], fun e e' z z' _ h => by simp [mget] at h⟩, h2.fwd.trans r3, r4⟩, ?_⟩
 rintro s10 m11 ⟨vis, rem, N, rfl, hit, hperm, hall, hfw, hfr10⟩
 obtain ⟨l, n1, n2⟩ := hit.entry
 refine ⟨l, n1, fun x13 s14 hm => ?_⟩
 rcases n2 x13 s14 hm with ⟨rfl, rfl, rfl⟩ | ⟨ra, hh, x, rc, rfl, rfl, hit', w1, w2, w3, w4, hent⟩
 ·-- all has been put together
  refine .inl ⟨rfl, ?_⟩
  obtain ⟨it3, s16, t1, t2, t3, t4, t5, t6⟩ := hall.map.range ty.rollup_edges rfl hfr10
  have hS : ∀ e, accS G hG a b vis e = sumH G hG a b e := by
   intro e
   have hp : vis.Perm (M.map (·.1)) := by simpa using hperm
   refine sumH_of G hG ((hp.nodup_iff.2 hnd).filter _) (fun x e hx => ?_) e
   simp only [List.mem_filter, inR, Bool.and_eq_true, decide_eq_true_eq]
   refine ⟨fun hx => hx.2, fun hx' => ⟨hp.mem_iff.2 ?_, hx'⟩⟩
   refine Classical.byContradiction fun hn => hx ?_
   exact h.none x (mget_none.2 hn) e
  have hlen : N.length ≤ E0.length := hall.len fun e he => by
   obtain ⟨h', hh'⟩ := accS_ne he
   exact hE h' e hh'
  have hndN := hall.map.nodup
  refine ⟨it3, s16, t1, fun x19 s20 m21 => ∃ rem3 L, m21 = rem3.length ∧ IterS edgeF s20 it3 m1 N rem3 ∧ SoN etE s20 x19 L ∧ (L.map (·.1) ++ rem3.map (·.1)).Perm (N.map (·.1)) ∧ (∀ y, y ∈ L → y.2.1 = (accS G hG a b vis y.1).1 ∧ SoN barE s14 y.2.2 y.2.1.l ∧ (∀ c, c ∈ blkOf y.2.2 → s.h.get c = none) ∧ mget N y.1 = some ((accS G hG a b vis y.1).1.V y.2.2)) ∧ Frw [] s14 s20 ∧ Fr s20 ∧ ∀ c, c ∈ blkOf x19 → s14.h.get c = none, ⟨N.length, N, [], rfl, t2, ⟨.nil _ _, fun _ => rfl⟩, by simp, by simp, t3, t4, by simp [blkOf]⟩, ?_⟩
  rintro x19 s20 m21 ⟨rem3, L, rfl, hit3, ⟨hso, hnil⟩, hperm3, hL, hfw20, hfr20, hnew⟩
  obtain ⟨l2, n3, n4⟩ := hit3.entry
  refine ⟨l2, n3, fun x23 s24 hm2 => ?_⟩
  rcases n4 x23 s24 hm2 with ⟨rfl, rfl, rfl⟩ | ⟨ra3, e, v, rc3, rfl, rfl, hit3', y1, y2, y3, y4, hent3⟩
  ·refine .inl ⟨rfl, ?_⟩
   have hLlen : L.length ≤ N.length := by
    have := hperm3.length_eq
    simp at this
    omega
   refine (Sort_ok hso (fun y hy => etF_ones (hL y hy).2.1.1.sl) (by unfold pow48 at hb; omega) hfr20).mono ?_
   rintro v s26 ⟨rfl, L', p1, p2, p3, p4, p5⟩
   have f26 : Frw [] s14 s26 := hfw20.step p4 hnew
   refine ⟨rfl, ⟨L', ⟨⟨p3, fun y hy => ?_, fun c hc => hfw.none (hnew c hc) (by simp)⟩, fun y hy => ?_, fun h => hnil (by rw [h] at p1; exact p1.symm.eq_nil), ?_, fun y hy c hc hx => ?_⟩, ?_⟩, hfw.trans f26, p5⟩
   ·obtain ⟨_, g2, g3, _⟩ := hL y (p1.mem_iff.1 hy)
    exact ⟨g2.1.sl.ext f26, g3⟩
   ·exact ⟨(hL y (p1.mem_iff.1 hy)).2.1.1.ext f26, (hL y (p1.mem_iff.1 hy)).2.1.2⟩
   ·have hk : (L'.map (·.1)).Perm (N.map (·.1)) := (p1.map _).trans (by simpa using hperm3)
    have hnd : L'.Pairwise fun y z => y.1 ≠ z.1 := List.pairwise_map.1 (hk.nodup_iff.2 hndN)
    refine hnd.imp_of_mem fun {y y'} hy hy' hne => ?_
    exact hall.apart y.1 y'.1 _ _ hne (hL y (p1.mem_iff.1 hy)).2.2.2 (hL y' (p1.mem_iff.1 hy')).2.2.2
   ·exact so_there (hL y (p1.mem_iff.1 hy)).2.1.1 c hc (hnew c hx)
   ·have hk : (L'.map (·.1)).Perm (N.map (·.1)) := (p1.map _).trans (by simpa using hperm3)
    refine told_of hndN (fun e => ?_) hk (fun y hy => ?_) p2
    ·rw [← hS e]; exact hall.none e
    ·rw [← hS y.1]; exact (hL y (p1.mem_iff.1 hy)).1
  ·-- one more
   obtain ⟨e1, e2⟩ := e
   have hmem : ((e1, e2), v) ∈ N := hit3.sub _ (by simp)
   have hmg := mget_of_mem hndN hmem
   obtain ⟨z, rfl, hzo, hzg⟩ := hall.some (e1, e2) v hmg
   generalize ht : (accS G hG a b vis (e1, e2)).1 = t at hzo hent3 hmg ⊢
   have hz := hzo.1.sl
   refine .inr ⟨_, _, _, _, _, _, _, _, z, rfl, _, _, _, _, _, _, _, _, z, hent3, ?_⟩
   intro m45 s46 h46 m47 s48 h48
   have hiter : s20.h.get it3 ≠ none := by
    obtain ⟨es, ck, sn, _, _, _, _, g, _⟩ := hit3
    rw [g]; simp
   have hi3 : ∀ c, c ∈ [it3] → s14.h.get c = none := fun c hc => by
    have : c = it3 := by simpa using hc
    rw [this]; exact t5
   have hfr24 : Fr s24 := hfr20.wr hiter y2 y4
   have f24 : Frw [] s14 s24 := hfw20.step y1 hi3
   obtain ⟨s49, w5, o45, w6, w7, w8, w9⟩ := (h46.own.ext h48.fwd).wrAll [.str e1, .str e2] rfl rfl
   have g49 : Frw [] s24 s49 := (h46.fwd.trans h48.fwd).step w6 (by simpa using h46.gone)
   have hne : m47 ≠ m45 := (h48.ne h46.own.there).symm
   have o47 := h48.own.fwd w6 (by simpa using hne)
   obtain ⟨s50, w10, o47', w11, w12, w13, w14⟩ := o47.wrAll (t.C z) (hz.onesx []) rfl
   have g50 : Frw [] s24 s50 := g49.step w11 (by
    intro c hc
    have : c = m47 := by simpa using hc
    rw [this]; exact h46.fwd.none h48.gone (by simp))
   have o45' := o45.fwd w11 (by simpa using hne.symm)
   refine ⟨s49, w5, s50, w10, _, _, o45'.all rfl, _, _, _, _, _, _, _, o47'.all rfl, ?_⟩
   have hfr50 : Fr s50 := (h48.fr.wr (h46.own.ext h48.fwd).there w7 w9).wr o47.there w12 w14
   intro m60 s61 h61
   have g61 : Frw [] s24 s61 := g50.trans h61.fwd
   have hso61 : So etE s61 x19 L := by
    rcases hso with h | ⟨b1, k1, n1, c1, q1, q2, q3, q4⟩
    ·exact .inl h
    ·refine .inr ⟨b1, k1, n1, c1, q1, q2, g61.1 _ _ (by simp) ?_, q4⟩
     refine y1.1 _ _ ?_ q3
     simp only [List.mem_singleton]
     rintro rfl
     exact hit3.noCells _ _ _ q3
   have hLlen : L.length + 1 ≤ E0.length := by
    have := hperm3.length_eq
    simp at this
    omega
   obtain ⟨x62, s63, q1, q2, q3, q4, q5, q6⟩ := So.append' (a := (((e1, e2), t, z) : ET)) hso61 ty.sl_api_EdgeTally rfl ty.api_EdgeTally rfl rfl rfl (etF_ones (y := ((e1, e2), t, z)) hz) h61.own.rd rfl (Nat.le_trans (Nat.mul_le_mul_right 104 (by omega)) hb) (by unfold pow48 at hb ⊢; omega) h61.fr
   have f61 : Frw [] s14 s61 := f24.trans g61
   have f63 : Frw [] s14 s63 := f61.step q3 hnew
   have hx3 : ∀ c, c ∈ blkOf x19 → c ≠ it3 ∧ c ≠ m1 := by
    intro c hc
    rcases hso with ⟨rfl, _⟩ | ⟨b1, k1, n1, c1, rfl, g2, g3, g4⟩
    ·simp [blkOf] at hc
    ·have : c = b1 := by simpa [blkOf] using hc
     rw [this]
     refine ⟨?_, ?_⟩
     ·rintro rfl; exact hit3.noCells _ _ _ g3
     ·rintro rfl; exact (hit3.src hndN).noCells _ _ _ g3
   refine ⟨x62, s63, q1, (ra3 ++ rc3).length, by simp, ra3 ++ rc3, L ++ [((e1, e2), t, z)], rfl, (hit3'.ext g61).fwd q3 (fun hc => (hx3 _ hc).2 rfl) (fun hc => (hx3 _ hc).1 rfl), ⟨q2, fun h => by simp at h⟩, ?_, fun y hy => ?_, f63, q5, ?_⟩
   ·refine List.Perm.trans ?_ hperm3
    simp only [List.map_append, List.map_cons, List.map_nil, List.append_assoc]
    refine List.Perm.append_left _ ?_
    simpa using List.perm_middle.symm
   ·rcases List.mem_append.1 hy with hy | hy
    ·exact hL y hy
    ·have : y = ((e1, e2), t, z) := by simpa using hy
     rw [this]
     exact ⟨ht.symm, hzo, hzg, by rw [ht]; exact hmg⟩
   ·rw [q4]
    intro c hc
    have : c = s61.nx := by simpa using hc
    rw [this]
    refine f61.none (h61.fr _ (Nat.le_refl _)) (by simp)
 ·-- an hour
  have hits : s.h.get it = none := h2.fwd.none r5 (by simp)
  have hito : s10.h.get it ≠ none := by
   obtain ⟨es, ck, sn, _, _, _, _, g, _⟩ := hit
   rw [g]; simp
  have f14 : Frw [] s s14 := hfw.step w1 (fun c hc => by
   have : c = it := by simpa using hc
   rw [this]; exact hits)
  have hfr14 : Fr s14 := hfr10.wr hito w2 w4
  have hall14 := hall.fwd w1 (by simpa using (hit.ne hall.map).symm) (fun c hc => by
   have : c = it := by simpa using hc
   rw [this]; exact hit.noCells)
  have hperm' : ((vis ++ [hh]) ++ (ra ++ rc).map (·.1)).Perm (M.map (·.1)) := by
   refine List.Perm.trans ?_ hperm
   simp only [List.map_append, List.map_cons, List.append_assoc]
   refine List.Perm.append_left _ ?_
   simpa using List.perm_middle.symm
  have skip : inR a b hh = false → ∃ m', m' < (ra ++ (hh, x) :: rc).length ∧ ∃ vis rem N, m' = rem.length ∧ IterS hourF s14 it m M rem ∧ (vis ++ rem.map (·.1)).Perm (M.map (·.1)) ∧ AllS s s14 m1 N (accS G hG a b vis) ∧ Frw [] s s14 ∧ Fr s14 := by
   intro hno
   refine ⟨(ra ++ rc).length, by simp, vis ++ [hh], ra ++ rc, N, rfl, hit', hperm', ?_, f14, hfr14⟩
   have : accS G hG a b (vis ++ [hh]) = accS G hG a b vis := funext fun e => by rw [accS_snoc, hno]; simp
   rw [this]; exact hall14
  refine .inr ⟨hh, x, rfl, hh, x, hent, bsel_of (fun c => ?_) fun c => bsel_of (fun c' => ?_) fun c' => ?_⟩
  ·exact skip (by simp at c; simp [inR]; omega)
  ·exact skip (by simp at c'; simp [inR]; omega)
  have hin : inR a b hh = true := by simp at c c'; simp [inR]; omega
  have hx : mget M hh = some x := mget_of_mem hnd (hit.sub _ (by simp))
  obtain ⟨bI, NI, rfl, hi, hbf, hbm⟩ := h.inner hh x hx
  have hi14 := hi.fwd (fp' := fp) f14 (by simp) (by simp) fun c hc => hc
  obtain ⟨it4, s72, t1, t2, t3, t4, t5, t6⟩ := hi14.map.range ty.rollup_edges rfl hfr14
  have hndI := hi.map.nodup
  refine ⟨it4, s72, t1, fun s75 m76 => ∃ proc rem4 N', m76 = rem4.length ∧ IterS edgeF s75 it4 bI NI rem4 ∧ (proc ++ rem4.map (·.1)).Perm (NI.map (·.1)) ∧ AllS s s75 m1 N' (inS (accS G hG a b vis) (gF G hG hh) proc) ∧ IterS hourF s75 it m M (ra ++ rc) ∧ Frw [] s s75 ∧ Fr s75, ⟨NI.length, [], NI, N, rfl, t2, by simp, ?_, hit'.ext t3, f14.trans t3, t4⟩, ?_⟩
  ·have : inS (accS G hG a b vis) (gF G hG hh) [] = accS G hG a b vis := funext fun e => by simp [inS]
   rw [this]; exact hall14.ext t3
  rintro s75 m76 ⟨proc, rem4, N', rfl, hit4, hperm4, hall4, hitm, hfw75, hfr75⟩
  obtain ⟨l4, n5, n6⟩ := hit4.entry
  refine ⟨l4, n5, fun x78 s79 hm4 => ?_⟩
  rcases n6 x78 s79 hm4 with ⟨rfl, rfl, rfl⟩ | ⟨ra4, e, v, rc4, rfl, rfl, hit4', y1, y2, y3, y4, hent4⟩
  ·-- the hour is done
   refine .inl ⟨rfl, (ra ++ rc).length, by simp, vis ++ [hh], ra ++ rc, N', rfl, hitm, hperm', ?_, hfw75, hfr75⟩
   have : accS G hG a b (vis ++ [hh]) = inS (accS G hG a b vis) (gF G hG hh) proc := funext fun e => by
    rw [accS_snoc, if_pos hin]
    unfold inS
    split
    ·rfl
    ·rename_i hno
     have hp : proc.Perm (NI.map (·.1)) := by simpa using hperm4
     have h0 : G hh e = .zero := hi.none e (mget_none.2 fun hc => hno (hp.mem_iff.2 hc))
     have : gF G hG hh e = .zero := Subtype.ext h0
     rw [this, GT.plus_zero]
   rw [this]; exact hall4
  ·-- one more edge of it
   obtain ⟨e1, e2⟩ := e
   have hmem : ((e1, e2), v) ∈ NI := hit4.sub _ (by simp)
   obtain ⟨z, rfl, hz0, hne0, _⟩ := hi.some (e1, e2) v (mget_of_mem hndI hmem)
   have hz : Sl barE s75 z (G hh (e1, e2)).l := (hz0.ext hfw75).sl
   have hnp : (e1, e2) ∉ proc := by
    have := hperm4.nodup_iff.2 hndI
    rw [List.nodup_append] at this
    intro hc
    exact this.2.2 _ hc (e1, e2) (by simp) rfl
   refine .inr ⟨_, _, _, _, _, _, _, _, z, rfl, _, _, _, _, _, _, _, _, z, hent4, ?_⟩
   intro m99 s100 h100 m101 s102 h102
   have hiter : s75.h.get it4 ≠ none := by
    obtain ⟨es, ck, sn, _, _, _, _, g, _⟩ := hit4
    rw [g]; simp
   have hi4 : ∀ c, c ∈ [it4] → NoCells s75 c := fun c hc => by
    have : c = it4 := by simpa using hc
    rw [this]; exact hit4.noCells
   have hfr79 : Fr s79 := hfr75.wr hiter y2 y4
   have f79 : Frw [] s s79 := hfw75.step y1 (fun c hc => by
    have : c = it4 := by simpa using hc
    rw [this]; exact f14.none t5 (by simp))
   have hz79 : Sl barE s79 z (G hh (e1, e2)).l := (hz0.ext f79).sl
   have hall79 := hall4.fwd y1 (by simpa using (hit4.ne hall4.map).symm) hi4
   obtain ⟨s103, w5, o99, w6, w7, w8, w9⟩ := (h100.own.ext h102.fwd).wrAll [.str e1, .str e2] rfl rfl
   have g103 : Frw [] s79 s103 := (h100.fwd.trans h102.fwd).step w6 (by simpa using h100.gone)
   have hne : m101 ≠ m99 := (h102.ne h100.own.there).symm
   have o101 := h102.own.fwd w6 (by simpa using hne)
   obtain ⟨s104, w10, o101', w11, w12, w13, w14⟩ := o101.wrAll ((G hh (e1, e2)).C z) (hz.onesx []) rfl
   have g104 : Frw [] s79 s104 := g103.step w11 (by
    intro c hc
    have : c = m101 := by simpa using hc
    rw [this]; exact h100.fwd.none h102.gone (by simp))
   have o99' := o99.fwd w11 (by simpa using hne.symm)
   refine ⟨s103, w5, s104, w10, ?_⟩
   intro s105 hB
   have g105 := g104.trans hB.fwd
   have hall105 := hall79.ext g105
   obtain ⟨z1, l1, hz1⟩ := hall105.look (e1, e2)
   have hbase : inS (accS G hG a b vis) (gF G hG hh) proc (e1, e2) = accS G hG a b vis (e1, e2) := by unfold inS; rw [if_neg hnp]
   have o99B := o99'.ext hB.fwd
   have o101B := o101'.ext hB.fwd
   refine ⟨_, _, o99B.all rfl, _, _, o99B.all rfl, _, _, _, _, _, _, z1, l1, _, _, _, _, _, _, _, o101B.all rfl, (Plus_okS hz1 (hz79.ext g105) (inS (accS G hG a b vis) (gF G hG hh) proc (e1, e2)).2.2 (hG.rng hh (e1, e2))).mono ?_⟩
   rintro v s125 ⟨⟨hv, g125⟩, hfr125⟩
   rw [if_pos ⟨(inS (accS G hG a b vis) (gF G hG hh) proc (e1, e2)).2.1, hG.ok hh (e1, e2)⟩] at hv
   obtain ⟨z2, rfl, hz2, hgo2⟩ := hv
   have hall125 := hall105.ext g125
   have hnew : inS (accS G hG a b vis) (gF G hG hh) (proc ++ [(e1, e2)]) (e1, e2) = (inS (accS G hG a b vis) (gF G hG hh) proc (e1, e2)).plus (gF G hG hh (e1, e2)) := by
    rw [hbase]; unfold inS; rw [if_pos (by simp)]
   have hoth : ∀ e', e' ≠ (e1, e2) → inS (accS G hG a b vis) (gF G hG hh) (proc ++ [(e1, e2)]) e' = inS (accS G hG a b vis) (gF G hG hh) proc e' := by
    intro e' he
    unfold inS
    by_cases hp : e' ∈ proc
    ·rw [if_pos (List.mem_append_left _ hp), if_pos hp]
    ·rw [if_neg (by simp [hp, he]), if_neg hp]
   have hval : (inS (accS G hG a b vis) (gF G hG hh) (proc ++ [(e1, e2)]) (e1, e2)).1 = (inS (accS G hG a b vis) (gF G hG hh) proc (e1, e2)).1.plus (G hh (e1, e2)) := by rw [hnew]; rfl
   obtain ⟨s134, x1, x2, x3⟩ := hall125.map.set KE ty.rollup_edges rfl (e1, e2) ((inS (accS G hG a b vis) (gF G hG hh) (proc ++ [(e1, e2)]) (e1, e2)).1.V z2)
   have hset := hall125.set (S' := inS (accS G hG a b vis) (gF G hG hh) (proc ++ [(e1, e2)])) (e := (e1, e2)) (z := z2) x3.1 x2 (by rw [hval]; exact hz2) (fun e' z' h1 h2 c hc hc2 => by
    obtain ⟨z'', g1, g2, _⟩ := hall105.some e' _ h1
    rw [V_inj g1] at hc
    exact so_there g2.1 c hc (hgo2 c hc2)) (fun c hc => ((f79.trans g105)).none (hgo2 c hc) (by simp)) (by
    rw [hval]
    intro h0
    exact hne0 (congrArg Subtype.val (GT.plus_eq_zero' (a := inS (accS G hG a b vis) (gF G hG hh) proc (e1, e2)) (b := gF G hG hh (e1, e2)) (Subtype.ext h0)))) hoth
   have hm1 : ∀ c, c ∈ [m1] → s.h.get c = none := fun c hc => by
    have : c = m1 := by simpa using hc
    rw [this]; exact hgone1
   have g125' := g105.trans g125
   rw [hval] at x1
   refine ⟨_, _, _, _, _, _, z2, 0, rfl, (o99B.ext g125).all rfl, s134, x1, (ra4 ++ rc4).length, by simp, proc ++ [(e1, e2)], ra4 ++ rc4, _, rfl, ?_, ?_, hset, ?_, (f79.trans g125').step x3.1 hm1, x3.fr hfr125 hall125.map.there⟩
   ·have hb1 : bI ≠ m1 := by
     rintro rfl
     exact hi.map.there hgone1
    exact (hit4'.ext g125').fwd x3.1 (by simpa using hb1) (by simpa using hit4.ne hall4.map)
   ·refine List.Perm.trans ?_ hperm4
    simp only [List.map_append, List.map_cons, List.append_assoc]
    refine List.Perm.append_left _ ?_
    simpa using List.perm_middle.symm
   ·have hmm : m ≠ m1 := by
     rintro rfl
     exact h.map.there hgone1
    have hitne : it ≠ it4 := by
     rintro rfl
     have : s14.h.get it ≠ none := by
      obtain ⟨es, ck, sn, _, _, _, _, g, _⟩ := hit'
      rw [g]; simp
     exact this t5
    have hmit4 : m ≠ it4 := by
     rintro rfl
     exact (h.map.ext f14).there t5
    exact ((hitm.fwd y1 (by simpa using hmit4) (by simpa using hitne)).ext g125').fwd x3.1 (by simpa using hmm) (by simpa using hit.ne hall.map)
end
end Go.Eng.S

namespace Go.Eng.S
open Go Go.Eng Go.Proofs
set_option linter.constructorNameAsVariable false
noncomputable section
attribute [local irreducible] bsel
def rngOk (a b : Int) : Bool := decide (0 ≤ a) && decide (a ≤ b) && decide (b ≤ 2097152)
theorem Range_ok {s : St} {r : Nat} {fan : Int} {G : RollF} {fp : List Nat} (hR : Roll s r fan G fp) {a b : Int} {E0 : List Edge} (hE : ∀ h e, G h e ≠ .zero → e ∈ E0) (hb : (E0.length + 1 + (E0.length + 1) / 4 + 600) * 104 ≤ pow48) :
  CallsA P F.p_rollup_Rollup_Range [.ptr r 0, .int .i64 a, .int .i64 b] s fun v s' => (if rngOk a b = true then ∃ x L, v = .tuple [x, .int .i64 0] ∧ EtO s s' x L ∧ ToldL (sumH G hR.good a b) (etP L) else v = .tuple [.nilslice, .int .i64 151]) ∧ Frw [] s s' ∧ Fr s' := by
 refine CallsA.fr fun hfr => vc.p_rollup_Rollup_Range_ok (bsel_of (fun c => ?_) fun c => bsel_of (fun c2 => ?_) fun c2 => bsel_of (fun c3 => ?_) fun c3 => ?_)
 ·simp at c
  exact ⟨by rw [if_neg (by simp [rngOk]; omega)], .refl _ _, hfr⟩
 ·simp at c c2
  exact ⟨by rw [if_neg (by simp [rngOk]; omega)], .refl _ _, hfr⟩
 ·simp at c c2 c3
  exact ⟨by rw [if_neg (by simp [rngOk]; omega)], .refl _ _, hfr⟩
 ·simp at c c2 c3
  refine (sum_ok hR (a := a) (b := b) hE hb).mono ?_
  rintro v s2 ⟨⟨L, h1, h2⟩, h3, h4⟩
  refine ⟨v, rfl, ?_⟩
  exact ⟨by rw [if_pos (by simp [rngOk]; omega)]; exact ⟨v, L, rfl, h1, h2⟩, h3, h4⟩
def sumR (G : RollF) (hG : RollG G) (a b : Int) (e : Edge) : GT := if rngOk a b = true then sumH G hG a b e else .zero
theorem ToldL.none {S : Edge → GT} (h : ∀ e, S e = .zero) : ToldL S [] where
 asc := by simp
 mem := fun e t => by simp [h e, GT.zero]
theorem EtS.nil (s0 s : St) : EtS s0 s .nilslice [] where
 so := .nil _ _
 bars := by simp
 new := by simp [blkOf]
theorem EtO.nil (s0 s : St) : EtO s0 s .nilslice [] where
 et := .nil _ _
 bso := by simp
 isnil := fun _ => rfl
 apart := .nil
 sep := by simp
theorem edges_ok {s : St} {r : Nat} {fan : Int} {G : RollF} {fp : List Nat} (hR : Roll s r fan G fp) {a b : Int} {E0 : List Edge} (hE : ∀ h e, G h e ≠ .zero → e ∈ E0) (hb : (E0.length + 1 + (E0.length + 1) / 4 + 600) * 104 ≤ pow48) :
  CallsA P F.spoorlaw15_edges [.ptr r 0, .int .i64 a, .int .i64 b] s fun v s' => (∃ L, EtO s s' v L ∧ ToldL (sumR G hR.good a b) (etP L)) ∧ Frw [] s s' ∧ Fr s' := by
 refine vc.spoorlaw15_edges_ok ((Range_ok hR (a := a) (b := b) hE hb).mono ?_)
 rintro v s2 ⟨h1, h2, h3⟩
 split at h1
 ·rename_i c
  obtain ⟨x, L, rfl, g1, g2⟩ := h1
  refine ⟨x, 0, rfl, ⟨L, g1, ?_⟩, h2, h3⟩
  have : sumR G hR.good a b = sumH G hR.good a b := funext fun e => if_pos c
  rw [this]; exact g2
 ·rename_i c
  subst h1
  exact ⟨_, _, rfl, ⟨[], .nil _ _, ToldL.none fun e => if_neg c⟩, h2, h3⟩
end
end Go.Eng.S

namespace Go.Eng.S
open Go Go.Eng Go.Proofs
set_option linter.constructorNameAsVariable false
noncomputable section
attribute [local irreducible] bsel barsOf mergeB
def mg : List Bar → List Bar → List Bar
 | [], b => b
 | x :: a, [] => x :: a
 | x :: a, y :: b => if x.1 < y.1 then x :: mg a (y :: b) else if y.1 < x.1 then y :: mg (x :: a) b else (x.1, sat x.2 y.2) :: mg a b
termination_by a b => a.length + b.length
theorem mg_nil (a : List Bar) : mg a [] = a := by
 cases a with
 | nil => rw [mg]
 | cons => rw [mg]
theorem cnt_below {l : List Bar} {last : Int} {i : Nat} (h1 : -1 ≤ last) (h : okB last l = true) (hi : (i : Int) ≤ last) : cnt l i = 0 := cnt_none (has_below h1 h hi)
theorem sat_z (a : Int) (h : 0 ≤ a ∧ a ≤ M64) : sat a 0 = a := by unfold sat; rw [if_pos (by omega)]; omega
theorem z_sat (a : Int) (h : 0 ≤ a ∧ a ≤ M64) : sat 0 a = a := by unfold sat; rw [if_pos (by omega)]; omega
theorem okB_cons {last : Int} {p : Bar} {r : List Bar} : okB last (p :: r) = true ↔ last < p.1 ∧ p.1 < 1920 ∧ p.2 ≠ 0 ∧ okB p.1 r = true := by
 simp [okB, and_assoc]
theorem mg_laws : ∀ (n : Nat) (a b : List Bar), a.length + b.length ≤ n → ∀ last, -1 ≤ last → okB last a = true → okB last b = true → RngB a → RngB b → okB last (mg a b) = true ∧ RngB (mg a b) ∧ ∀ i, cnt (mg a b) i = sat (cnt a i) (cnt b i)
 | _, [], b, _, _, _, _, hb, _, rb => by
  rw [mg]
  exact ⟨hb, rb, fun i => by rw [show cnt [] i = 0 from rfl, z_sat _ (cnt_rng rb i)]⟩
 | _, x :: a, [], _, _, _, ha, _, ra, _ => by
  rw [mg]
  exact ⟨ha, ra, fun i => by rw [show cnt [] i = 0 from rfl, sat_z _ (cnt_rng ra i)]⟩
 | 0, x :: a, y :: b, hn, _, _, _, _, _, _ => by simp at hn
 | n + 1, x :: a, y :: b, hn, last, hl, ha, hb, ra, rb => by
  obtain ⟨a1, a2, a3, a4⟩ := okB_cons.1 ha
  obtain ⟨b1, b2, b3, b4⟩ := okB_cons.1 hb
  have rx := ra.head.2.2
  have ry := rb.head.2.2
  have cx : ∀ i, x.1.toNat = i → (i : Int) = x.1 := fun i h => by omega
  have cy : ∀ i, y.1.toNat = i → (i : Int) = y.1 := fun i h => by omega
  simp only [List.length_cons] at hn
  rw [mg]
  split
  ·rename_i h
   have hb' : okB x.1 (y :: b) = true := okB_cons.2 ⟨h, b2, b3, b4⟩
   obtain ⟨i1, i2, i3⟩ := mg_laws n a (y :: b) (by simp only [List.length_cons]; omega) x.1 (by omega) a4 hb' ra.tail rb
   refine ⟨okB_cons.2 ⟨a1, a2, a3, i1⟩, fun p hp => ?_, fun i => ?_⟩
   ·rcases List.mem_cons.1 hp with rfl | hp
    ·exact ra.head
    ·exact i2 p hp
   ·show (if x.1.toNat = i then x.2 else cnt (mg a (y :: b)) i) = sat (if x.1.toNat = i then x.2 else cnt a i) (cnt (y :: b) i)
    split
    ·rename_i e
     rw [cnt_below (by omega) hb' (by have := cx i e; omega), sat_z _ rx]
    ·exact i3 i
  split
  ·rename_i h1 h
   have ha' : okB y.1 (x :: a) = true := okB_cons.2 ⟨h, a2, a3, a4⟩
   obtain ⟨i1, i2, i3⟩ := mg_laws n (x :: a) b (by simp only [List.length_cons]; omega) y.1 (by omega) ha' b4 ra rb.tail
   refine ⟨okB_cons.2 ⟨b1, b2, b3, i1⟩, fun p hp => ?_, fun i => ?_⟩
   ·rcases List.mem_cons.1 hp with rfl | hp
    ·exact rb.head
    ·exact i2 p hp
   ·show (if y.1.toNat = i then y.2 else cnt (mg (x :: a) b) i) = sat (cnt (x :: a) i) (if y.1.toNat = i then y.2 else cnt b i)
    split
    ·rename_i e
     rw [cnt_below (by omega) ha' (by have := cy i e; omega), z_sat _ ry]
    ·exact i3 i
  ·rename_i h1 h2
   have e : y.1 = x.1 := by omega
   rw [e] at b4
   obtain ⟨i1, i2, i3⟩ := mg_laws n a b (by omega) x.1 (by omega) a4 b4 ra.tail rb.tail
   have hs := sat_rng rx ry
   refine ⟨okB_cons.2 ⟨a1, a2, ?_, i1⟩, fun p hp => ?_, fun i => ?_⟩
   ·show sat x.2 y.2 ≠ 0
    unfold sat M64 at *
    split <;> omega
   ·rcases List.mem_cons.1 hp with rfl | hp
    ·exact ⟨ra.head.1, ra.head.2.1, hs⟩
    ·exact i2 p hp
   ·show (if x.1.toNat = i then sat x.2 y.2 else cnt (mg a b) i) = sat (if x.1.toNat = i then x.2 else cnt a i) (if y.1.toNat = i then y.2 else cnt b i)
    rw [e]
    split
    ·rfl
    ·exact i3 i
theorem mg_eq {a b : List Bar} (ha : okB (-1) a = true) (hb : okB (-1) b = true) (ra : RngB a) (rb : RngB b) : mg a b = mergeB a b := by
 obtain ⟨h1, h2, h3⟩ := mg_laws _ a b (Nat.le_refl _) (-1) (by omega) ha hb ra rb
 rw [mergeB_eq ha hb ra rb, ← barsOf_cnt h1 h2]
 exact congrArg barsOf (funext h3)
theorem plus13_pure (a b : Int) (ha : 0 ≤ a ∧ a ≤ M64) (hb : 0 ≤ b ∧ b ≤ M64) (s : St) : CallsD P F.spoorref13_plus [.int .u64 a, .int .u64 b] s fun v s' => v = .int .u64 (sat a b) ∧ s' = s := by
 refine CallsD.pure (fun s => (vc.spoorref13_plus_ok ?_).a) rfl s
 unfold sat M64 at *
 unfold vc.spoorref13_plus
 rw [show IntKind.wrap .u64 (18446744073709551615 - b) = 18446744073709551615 - b from wrap_u64 (by omega) (by omega)]
 refine bsel_of (fun c => ?_) fun c => ?_
 ·simp at c
  rw [if_neg (by omega)]
 ·simp at c
  rw [if_pos (by omega), wrap_u64 (by omega) (by omega)]
theorem wrap_u64m (a : Int) : IntKind.wrap .u64 a = a % 18446744073709551616 := by
 simp [IntKind.wrap, IntKind.bits, IntKind.signed]
theorem plusP_hi {a1 a2 b1 b2 : Int} (h : M128 < val2 (a1, a2) + val2 (b1, b2)) : plusP (a1, a2) (b1, b2) = (18446744073709551615, 18446744073709551615) := by
 unfold plusP; rw [if_neg (by omega)]; rfl
theorem plusP_lo {a1 a2 b1 b2 x y : Int} (h : val2 (a1, a2) + val2 (b1, b2) = x * 18446744073709551616 + y) (hx : 0 ≤ x ∧ x ≤ M64) (hy : 0 ≤ y ∧ y ≤ M64) : plusP (a1, a2) (b1, b2) = (x, y) := by
 unfold M64 at *
 unfold plusP; rw [if_pos (by unfold M128; omega), h]
 unfold of2
 congr 1 <;> omega
theorem Add14_pure (a b : P2) (ha : Rng2 a) (hb : Rng2 b) (s : St) : CallsD P F.spoorref14_Add [p2V a, p2V b] s fun v s' => v = p2V (plusP a b) ∧ s' = s := by
 refine CallsD.pure (fun s => (vc.spoorref14_Add_ok ?_).a) rfl s
 obtain ⟨a1, a2⟩ := a
 obtain ⟨b1, b2⟩ := b
 obtain ⟨⟨ha1, ha2⟩, ha3, ha4⟩ := ha
 obtain ⟨⟨hb1, hb2⟩, hb3, hb4⟩ := hb
 simp only [M64] at ha1 ha2 ha3 ha4 hb1 hb2 hb3 hb4
 intro m1 s2 h2 m3 s4 h4 m5 s6 h6
 have o1 := (h2.own.ext h4.fwd).ext h6.fwd
 have o3 := h4.own.ext h6.fwd
 simp only [wrap_u64m]
 have hi : M128 < val2 (a1, a2) + val2 (b1, b2) → ∃ (s13 : St), wrN s6 (.ptr m5 0) [.int .u64 18446744073709551615, .int .u64 18446744073709551615] = some s13 ∧ ∃ n14 n15 : Int, ldN s13 (.ptr m5 0) 2 = some [.int .u64 n14, .int .u64 n15] ∧ AV.agg [.int .u64 n14, .int .u64 n15] = p2V (plusP (a1, a2) (b1, b2)) := by
  intro h
  obtain ⟨s15, w1, w2, _⟩ := h6.own.wrAll [.int .u64 18446744073709551615, .int .u64 18446744073709551615] rfl rfl
  exact ⟨s15, w1, _, _, w2.all rfl, by rw [plusP_hi h]; rfl⟩
 have lo : ∀ x y : Int, val2 (a1, a2) + val2 (b1, b2) = x * 18446744073709551616 + y → (0 ≤ x ∧ x ≤ M64) → (0 ≤ y ∧ y ≤ M64) → ∃ (s13 : St), wrN s6 (.ptr m5 0) [.int .u64 x, .int .u64 y] = some s13 ∧ ∃ n14 n15 : Int, ldN s13 (.ptr m5 0) 2 = some [.int .u64 n14, .int .u64 n15] ∧ AV.agg [.int .u64 n14, .int .u64 n15] = p2V (plusP (a1, a2) (b1, b2)) := by
  intro x y h hx hy
  obtain ⟨s15, w1, w2, _⟩ := h6.own.wrAll [.int .u64 x, .int .u64 y] rfl rfl
  exact ⟨s15, w1, _, _, w2.all rfl, by rw [plusP_lo h hx hy]; rfl⟩
 unfold M64 at lo
 unfold M128 at hi
 simp only [val2] at hi lo
 refine ⟨a2, o1.ld1 1 rfl, b2, o3.ld1 1 rfl, a2, o1.ld1 1 rfl, bsel_of (fun c => ?_) fun c => ?_⟩
 ·simp only [decide_eq_true_eq] at c
  refine ⟨a1, o1.ld1 0 rfl, b1, o3.ld1 0 rfl, a1, o1.ld1 0 rfl, bsel_of (fun c1 => ?_) fun c1 => bsel_of (fun c2 => ?_) fun c2 => ?_⟩
  ·simp only [decide_eq_true_eq] at c1
   exact hi (by omega)
  ·simp only [decide_eq_true_eq, decide_eq_false_iff_not] at c1 c2
   exact hi (by omega)
  ·simp only [decide_eq_false_iff_not] at c1 c2
   exact lo _ _ (by omega) (by omega) (by omega)
 ·simp only [decide_eq_false_iff_not] at c
  refine ⟨a1, o1.ld1 0 rfl, b1, o3.ld1 0 rfl, a1, o1.ld1 0 rfl, bsel_of (fun c1 => ?_) fun c1 => bsel_of (fun c2 => ?_) fun c2 => ?_⟩
  ·simp only [decide_eq_true_eq] at c1
   exact hi (by omega)
  ·simp only [decide_eq_true_eq] at c2
   omega
  ·simp only [decide_eq_false_iff_not] at c1 c2
   exact lo _ _ (by omega) (by omega) (by omega)
theorem mg_takeA {l1 l2 : List Bar} {i j : Nat} (hi : i < l1.length) (h : j = l2.length ∨ ∃ hj : j < l2.length, l1[i].1 < l2[j].1) : mg (l1.drop i) (l2.drop j) = l1[i] :: mg (l1.drop (i + 1)) (l2.drop j) := by
 rcases h with rfl | ⟨hj, h⟩
 ·rw [drop_at hi, List.drop_length, mg_nil, mg_nil]
 ·rw [drop_at hi, drop_at hj, mg, if_pos h]
theorem mg_takeB {l1 l2 : List Bar} {i j : Nat} (hj : j < l2.length) (h : i = l1.length ∨ ∃ hi : i < l1.length, l2[j].1 < l1[i].1) : mg (l1.drop i) (l2.drop j) = l2[j] :: mg (l1.drop i) (l2.drop (j + 1)) := by
 rcases h with rfl | ⟨hi, h⟩
 ·rw [drop_at hj, List.drop_length, mg, mg]
 ·rw [drop_at hi, drop_at hj, mg, if_neg (by omega), if_pos h]
theorem mg_takeC {l1 l2 : List Bar} {i j : Nat} (hi : i < l1.length) (hj : j < l2.length) (h : l1[i].1 = l2[j].1) : mg (l1.drop i) (l2.drop j) = (l1[i].1, sat l1[i].2 l2[j].2) :: mg (l1.drop (i + 1)) (l2.drop (j + 1)) := by
 rw [drop_at hi, drop_at hj, mg, if_neg (by omega), if_neg (by omega)]
def RMI (l1 l2 : List Bar) (s : St) (x : AV) (n10 n11 : Int) (s12 : St) (m : Nat) : Prop :=
 ∃ (i j : Nat) (acc : List Bar), n10 = i ∧ n11 = j ∧ m = (l1.length - i) + (l2.length - j) ∧ i ≤ l1.length ∧ j ≤ l2.length ∧ acc.length ≤ i + j ∧ acc ++ mg (l1.drop i) (l2.drop j) = mg l1 l2 ∧ So barE s12 x acc ∧ (∀ c, c ∈ blkOf x → s.h.get c = none) ∧ Frw [] s s12 ∧ Fr s12
theorem RMI.next {l1 l2 : List Bar} {s s12 s' : St} {x : AV} {i j i' j' b : Nat} {acc : List Bar} {p : Bar} {n n' : Int} (hlen : l1.length ≤ 1920 ∧ l2.length ≤ 1920) (hacc : acc.length ≤ i + j) (hmg : acc ++ mg (l1.drop i) (l2.drop j) = mg l1 l2) (hso : So barE s12 x acc) (hnew : ∀ c, c ∈ blkOf x → s.h.get c = none) (f12 : Frw [] s s12)
  (hij : i ≤ i' ∧ j ≤ j' ∧ i' ≤ l1.length ∧ j' ≤ l2.length ∧ i + j < i' + j') (h : mg (l1.drop i) (l2.drop j) = p :: mg (l1.drop i') (l2.drop j')) (f : Frw [] s12 s') (hfr : Fr s') (ho : Own s' b [.int .i64 p.1, .int .u64 p.2]) (hn : n = i') (hn' : n' = j') :
  ∃ x' s24, appendX D s' T.sl_api_Bar T.sl_api_Bar x (.slice b 0 1 (.exact 1)) = some (x', s24) ∧ ∃ m, m < (l1.length - i) + (l2.length - j) ∧ RMI l1 l2 s x' n n' s24 m := by
 obtain ⟨x62, s63, q1, q2, q3, q4, q5, q6⟩ := So.append' (a := p) (hso.ext f) ty.sl_api_Bar rfl ty.api_Bar rfl rfl rfl rfl ho.rd rfl (show (acc.length + 1 + (acc.length + 1) / 4 + 600) * 16 ≤ pow48 by unfold pow48; omega) (by unfold pow48; omega) hfr
 refine ⟨x62, s63, q1, (l1.length - i') + (l2.length - j'), by omega, i', j', acc ++ [p], hn, hn', rfl, by omega, by omega, ?_, ?_, q2, fun c hc => ?_, (f12.trans f).step q3 hnew, q5⟩
 ·rw [List.length_append]; simp only [List.length_cons, List.length_nil]; omega
 ·rw [List.append_assoc, List.singleton_append, ← h, hmg]
 ·rw [q4] at hc
  have : c = s'.nx := by simpa using hc
  rw [this]
  exact (f12.trans f).none (hfr _ (Nat.le_refl _)) (by simp)
set_option maxRecDepth 4000 in
theorem RMerge_ok {s : St} {a1 a2 : AV} {l1 l2 : List Bar} (h1 : Sl barE s a1 l1) (h2 : Sl barE s a2 l2) (r1 : RngB l1) (r2 : RngB l2) (k1 : okB (-1) l1 = true) (k2 : okB (-1) l2 = true) :
  CallsD P F.spoorref13_Merge [a1, a2] s fun v s' => ((∃ z, v = .tuple [z, .int .i64 0] ∧ Sl barE s' z (mergeB l1 l2) ∧ Gone s z) ∧ Frw [] s s') ∧ Fr s' := by
 refine CallsD.of fun hfr => vc.spoorref13_Merge_ok ((RCheck_ok h1 r1).mono ?_)
 rintro v s2 ⟨⟨rfl, f2⟩, hfr2⟩
 refine ⟨_, rfl, bsel_of (fun c => by simp [k1] at c) fun _ => (RCheck_ok (h2.ext f2) r2).mono ?_⟩
 rintro v s5 ⟨⟨rfl, f5'⟩, hfr5⟩
 have f5 := f2.trans f5'
 refine ⟨_, rfl, bsel_of (fun c => by simp [k2] at c) fun _ => ?_⟩
 have n1 : l1.length ≤ 1920 ∧ l2.length ≤ 1920 := ⟨by have := okB_len (by omega) k1; omega, by have := okB_len (by omega) k2; omega⟩
 refine ⟨RMI l1 l2 s, ⟨_, 0, 0, [], rfl, rfl, rfl, by omega, by omega, by simp, by simp, .nil _ _, by simp [blkOf], f5, hfr5⟩, ?_⟩
 rintro x9 n10 n11 s12 m13 ⟨i, j, acc, rfl, rfl, rfl, hi, hj, hacc, hmg, hso, hnew, f12, hfr12⟩
 have a12 := h1.ext f12
 have b12 := h2.ext f12
 have wi : IntKind.wrap .i64 ((i : Int) + 1) = ((i + 1 : Nat) : Int) := by rw [wrap_i64 (by omega) (by omega)]; rfl
 have wj : IntKind.wrap .i64 ((j : Int) + 1) = ((j + 1 : Nat) : Int) := by rw [wrap_i64 (by omega) (by omega)]; rfl
 have takeA : ∀ {s' : St} (f : Frw [] s12 s') (hi' : i < l1.length) (h : j = l2.length ∨ ∃ hj : j < l2.length, l1[i].1 < l2[j].1), ixsK 2 a1 (i : Int) fun m17 m18 => ∃ (n19 : Int) (n20 : Int), ldN s' (.ptr m17 m18) 2 = some [.int .i64 n19, .int .u64 n20] ∧ ∀ (m21 : Nat) (s22 : St), NewO s' (cellsO [.int .i64 n19, .int .u64 n20]) m21 s22 → ∃ x23 s24, appendX D s22 T.sl_api_Bar T.sl_api_Bar x9 (.slice m21 0 1 (.exact 1)) = some (x23, s24) ∧ ∃ m25, m25 < (l1.length - i) + (l2.length - j) ∧ RMI l1 l2 s x23 (IntKind.wrap .i64 ((i : Int) + 1)) (j : Int) s24 m25 := by
  intro s' f hi' h
  refine (a12.ext f).ixs rfl rfl hi' fun b o hR => ⟨_, _, hR.all rfl, fun m21 s22 hN => ?_⟩
  exact RMI.next (i' := i + 1) (j' := j) (p := l1[i]) n1 hacc hmg hso hnew f12 (by omega) (mg_takeA hi' h) (f.trans hN.fwd) hN.fr hN.own wi rfl
 have takeB : ∀ {s' : St} (f : Frw [] s12 s') (hj' : j < l2.length) (h : i = l1.length ∨ ∃ hi : i < l1.length, l2[j].1 < l1[i].1), ixsK 2 a2 (j : Int) fun m17 m18 => ∃ (n19 : Int) (n20 : Int), ldN s' (.ptr m17 m18) 2 = some [.int .i64 n19, .int .u64 n20] ∧ ∀ (m21 : Nat) (s22 : St), NewO s' (cellsO [.int .i64 n19, .int .u64 n20]) m21 s22 → ∃ x23 s24, appendX D s22 T.sl_api_Bar T.sl_api_Bar x9 (.slice m21 0 1 (.exact 1)) = some (x23, s24) ∧ ∃ m25, m25 < (l1.length - i) + (l2.length - j) ∧ RMI l1 l2 s x23 (i : Int) (IntKind.wrap .i64 ((j : Int) + 1)) s24 m25 := by
  intro s' f hj' h
  refine (b12.ext f).ixs rfl rfl hj' fun b o hR => ⟨_, _, hR.all rfl, fun m21 s22 hN => ?_⟩
  exact RMI.next (i' := i) (j' := j + 1) (p := l2[j]) n1 hacc hmg hso hnew f12 (by omega) (mg_takeB hj' h) (f.trans hN.fwd) hN.fr hN.own rfl wj
 refine a12.slen (bsel_of (fun c => ?_) fun c => ?_)
 ·have hi' : i < l1.length := by simpa using c
  intro s15 hB
  have b15 := b12.ext hB.fwd
  have a15 := a12.ext hB.fwd
  refine b15.slen (bsel_of (fun c => ?_) fun c => a15.slen (bsel_of (fun _ => ?_) fun c' => by simp at c'; omega))
  ·exact takeA hB.fwd hi' (.inl (by simp at c; omega))
  have hj' : j < l2.length := by simp at c; omega
  refine a15.ixs rfl rfl hi' fun b o hRa => ⟨_, hRa.ld1 0 rfl, b15.ixs rfl rfl hj' fun b' o' hRb => ⟨_, hRb.ld1 0 rfl, bsel_of (fun c1 => ?_) fun c1 => ?_⟩⟩
  ·exact takeA hB.fwd hi' (.inr ⟨hj', by simpa using c1⟩)
  simp only [decide_eq_false_iff_not] at c1
  intro s42 hB2
  have g42 := hB.fwd.trans hB2.fwd
  have b42 := b12.ext g42
  have a42 := a12.ext g42
  refine a42.slen (bsel_of (fun c => by simp at c; omega) fun _ => ?_)
  refine b42.ixs rfl rfl hj' fun b' o' hRb => ⟨_, hRb.ld1 0 rfl, a42.ixs rfl rfl hi' fun b o hRa => ⟨_, hRa.ld1 0 rfl, bsel_of (fun c2 => ?_) fun c2 => ?_⟩⟩
  ·exact takeB g42 hj' (.inr ⟨hi', by simpa using c2⟩)
  simp only [decide_eq_false_iff_not] at c2
  intro s68 hB3
  have g68 := g42.trans hB3.fwd
  have b68 := b12.ext g68
  have a68 := a12.ext g68
  refine a68.ixs rfl rfl hi' fun b1 o1 hR1 => ⟨_, hR1.ld1 0 rfl, a68.ixs rfl rfl hi' fun b2 o2 hR2 => ⟨_, hR2.ld1 1 rfl, b68.ixs rfl rfl hj' fun b3 o3 hR3 => ⟨_, hR3.ld1 1 rfl, (plus13_pure _ _ (r1 _ (List.getElem_mem hi')).2.2 (r2 _ (List.getElem_mem hj')).2.2 s68).mono ?_⟩⟩⟩
  rintro _ s79 ⟨rfl, rfl⟩
  refine ⟨_, rfl, hR1.ld1 0 rfl, a68.noSym ?_⟩
  have hfree : s79.h.get (s42.nx + 18) = none := hB3.free
  have hlt : s42.nx + 18 < s79.nx := by have := hB3.lt; omega
  exact RMI.next (i' := i + 1) (j' := j + 1) (p := (l1[i].1, sat l1[i].2 l2[j].2)) n1 hacc hmg hso hnew f12 (by omega) (mg_takeC hi' hj' (by omega)) (g68.trans (hsetS_fwd hfree)) (hsetS_fr hB3.fr hlt) hsetS_own wi wj
 ·have hi' : i = l1.length := by simp at c; omega
  refine b12.slen (bsel_of (fun c => ?_) fun c => ?_)
  ·have hj' : j < l2.length := by simpa using c
   intro s127 hB
   have b15 := b12.ext hB.fwd
   have a15 := a12.ext hB.fwd
   refine b15.slen (bsel_of (fun c => by simp at c; omega) fun _ => a15.slen (bsel_of (fun c' => by simp at c'; omega) fun _ => ?_))
   intro s196 hB2
   have g42 := hB.fwd.trans hB2.fwd
   refine (a12.ext g42).slen (bsel_of (fun _ => ?_) fun c => by simp at c; omega)
   exact takeB g42 hj' (.inl hi')
  ·have hj' : j = l2.length := by simp at c; omega
   subst hi'; subst hj'
   refine ⟨⟨x9, rfl, ?_, hnew⟩, f12⟩
   rw [← mg_eq k1 k2 r1 r2, ← hmg, List.drop_length, List.drop_length, mg, List.append_nil]
   exact hso.sl
theorem RPlus_ok {s : St} {t u : Tal} {x y : AV} (hx : Sl barE s x t.l) (hy : Sl barE s y u.l) (ht : t.Rng) (hu : u.Rng) (kt : t.ok = true) (ku : u.ok = true) :
  CallsD P F.spoorref14_Plus [t.V x, u.V y] s fun v s' => ((∃ z, v = .tuple [(t.plus u).V z, .int .i64 0] ∧ Sl barE s' z (t.plus u).l ∧ Gone s z) ∧ Frw [] s s') ∧ Fr s' := by
 refine CallsD.of fun hfr => vc.spoorref14_Plus_ok ?_
 intro m1 s2 h2 m3 s4 h4 m5 s6 h6
 have f6 : Frw [] s s6 := (h2.fwd.trans h4.fwd).trans h6.fwd
 have o1 := (h2.own.ext h4.fwd).ext h6.fwd
 have o3 := h4.own.ext h6.fwd
 have o5 := h6.own
 have f5 : s.h.get m5 = none := (h2.fwd.trans h4.fwd).none h6.gone (by simp)
 refine ⟨x, o1.ld1 6 rfl, y, o3.ld1 6 rfl, (RMerge_ok (hx.ext f6) (hy.ext f6) ht.l hu.l kt ku).mono ?_⟩
 rintro v s10 ⟨⟨⟨z, rfl, hz, hg⟩, f10⟩, hfr10⟩
 refine ⟨z, 0, rfl, bsel_of (fun c => by simp at c) fun _ => ?_⟩
 intro s21 hB
 have o1 := (o1.ext f10).ext hB.fwd
 have o3 := (o3.ext f10).ext hB.fwd
 have o5 := (o5.ext f10).ext hB.fwd
 have hz := hz.ext hB.fwd
 refine ⟨_, _, o1.ldN 0 2 (by simp), _, _, o3.ldN 0 2 (by simp), (Add14_pure _ _ ht.a hu.a s21).mono ?_⟩
 rintro _ _ ⟨rfl, rfl⟩
 refine ⟨_, _, rfl, _, _, o1.ldN 2 2 (by simp), o1.ldN 2 2 (by simp), _, _, o3.ldN 2 2 (by simp), o3.ldN 2 2 (by simp), (Add14_pure _ _ ht.b hu.b _).mono ?_⟩
 rintro _ _ ⟨rfl, rfl⟩
 refine ⟨_, _, rfl, _, _, o1.ldN 4 2 (by simp), o1.ldN 4 2 (by simp), o1.ldN 4 2 (by simp), _, _, o3.ldN 4 2 (by simp), o3.ldN 4 2 (by simp), o3.ldN 4 2 (by simp), (Add14_pure _ _ ht.c hu.c _).mono ?_⟩
 rintro _ _ ⟨rfl, rfl⟩
 refine ⟨_, _, rfl, hz.one ?_⟩
 obtain ⟨s49, w1, w2, w3, w4⟩ := o5.wrAll ((t.plus u).C z) (hz.onesx []) rfl
 refine ⟨s49, w1, _, _, _, _, _, _, _, w2.all rfl, ⟨z, rfl, hz.wr w3 hg h6.own.there, hg.back f6⟩, ((f6.trans f10).trans hB.fwd).step w3 (by simpa using f5)⟩
end
end Go.Eng.S

namespace Go.Eng.S
open Go Go.Eng Go.Proofs
set_option linter.constructorNameAsVariable false
noncomputable section
open Classical in
def toGT (t : Tal) : GT := if h : t.ok = true ∧ t.Rng then ⟨t, h⟩ else .zero
theorem toGT_val {t : Tal} (h1 : t.ok = true) (h2 : t.Rng) : (toGT t).1 = t := by
 unfold toGT; rw [dif_pos ⟨h1, h2⟩]
theorem toGT_of (t : GT) : toGT t.1 = t := Subtype.ext (toGT_val t.2.1 t.2.2)
def addE (S : Edge → GT) (e : Edge) (t : GT) : Edge → GT := fun e' => if e' = e then (S e').plus t else S e'
def sumE (l : List (Edge × Tal)) (e : Edge) : GT := gsum ((l.filter fun y => decide (y.1 = e)).map fun y => toGT y.2)
theorem sumE_snoc (l : List (Edge × Tal)) (y : Edge × Tal) : sumE (l ++ [y]) = addE (sumE l) y.1 (toGT y.2) := by
 funext e
 unfold sumE addE
 rw [List.filter_append, List.map_append, gsum_append]
 by_cases h : e = y.1
 ·rw [if_pos h, List.filter_cons_of_pos (by simp [h])]
  simp [gsum, GT.plus_zero]
 ·rw [if_neg h, List.filter_cons_of_neg (by simpa using fun e' => h e'.symm)]
  simp [gsum, GT.plus_zero]
theorem sumE_ne {l : List (Edge × Tal)} {e : Edge} (h : sumE l e ≠ .zero) : e ∈ l.map (·.1) := by
 refine Classical.byContradiction fun hn => h ?_
 unfold sumE
 refine gsum_zero fun x hx => ?_
 obtain ⟨y, hy, rfl⟩ := List.mem_map.1 hx
 obtain ⟨h1, h2⟩ := List.mem_filter.1 hy
 exact absurd (List.mem_map.2 ⟨y, h1, by simpa using h2⟩) hn
theorem ToldL.of {S : Edge → GT} {L : List (Edge × Tal)} (asc : L.Pairwise fun x y => ssLt x.1 y.1 = true) (h1 : ∀ p, p ∈ L → p.2 = (S p.1).1 ∧ p.2 ≠ .zero) (h2 : ∀ e, (S e).1 ≠ .zero → ∃ p, p ∈ L ∧ p.1 = e) : ToldL S L where
 asc := asc
 mem := fun e t => by
  constructor
  ·intro h
   exact h1 (e, t) h
  ·rintro ⟨rfl, h⟩
   obtain ⟨p, hp, rfl⟩ := h2 e h
   have := (h1 p hp).1
   obtain ⟨p1, p2⟩ := p
   simp only at this
   rw [← this]; exact hp
theorem ToldL.at {S : Edge → GT} {L : List (Edge × Tal)} (h : ToldL S L) {p : Edge × Tal} (hp : p ∈ L) : p.2 = (S p.1).1 ∧ p.2 ≠ .zero := (h.mem p.1 p.2).1 hp
theorem ToldL.lt {S : Edge → GT} {L : List (Edge × Tal)} (h : ToldL S L) {i j : Nat} (hij : i < j) (hj : j < L.length) : ssLt (L[i]'(by omega)).1 L[j].1 = true := List.pairwise_iff_getElem.1 h.asc i j _ _ hij
theorem ToldL.inj {S : Edge → GT} {L : List (Edge × Tal)} (h : ToldL S L) {i j : Nat} (hi : i < L.length) (hj : j < L.length) (e : L[i].1 = L[j].1) : i = j := by
 rcases Nat.lt_trichotomy i j with c | c | c
 ·have := h.lt c hj; rw [e, ssLt_irrefl] at this; simp at this
 ·exact c
 ·have := h.lt c hi; rw [e, ssLt_irrefl] at this; simp at this
theorem ToldL.nodup {S : Edge → GT} {L : List (Edge × Tal)} (h : ToldL S L) : (L.map (·.1)).Nodup := by
 refine List.pairwise_map.2 (h.asc.imp fun {x y} hxy e => ?_)
 rw [e, ssLt_irrefl] at hxy; simp at hxy
theorem told_len2 {l L : List (Edge × Tal)} {E0 : List Edge} (h : ToldL (sumE l) L) (hE : ∀ y, y ∈ l → y.1 ∈ E0) : L.length ≤ E0.length := by
 have := nodup_length_le (a := L.map (·.1)) (b := E0) h.nodup fun e he => by
  obtain ⟨p, hp, rfl⟩ := List.mem_map.1 he
  obtain ⟨y, hy, e2⟩ := List.mem_map.1 (sumE_ne (l := l) (e := p.1) fun h0 => by
   have := h.at hp
   rw [h0] at this
   exact this.2 this.1)
  rw [← e2]; exact hE y hy
 simpa using this
theorem GT.plus_ne {a t : GT} (ht : t ≠ .zero) : a.plus t ≠ .zero := fun h => ht (GT.plus_eq_zero' h)
theorem GT.val_ne {a : GT} : a.1 ≠ .zero ↔ a ≠ .zero := ⟨fun h e => h (by rw [e]; rfl), fun h e => h (Subtype.ext e)⟩
theorem ToldL.set {S : Edge → GT} {L : List (Edge × Tal)} (h : ToldL S L) {k : Nat} (hk : k < L.length) {t : GT} (ht : t ≠ .zero) : ToldL (addE S L[k].1 t) (L.set k (L[k].1, L[k].2.plus t.1)) := by
 have key : ∀ i (hi : i < (L.set k (L[k].1, L[k].2.plus t.1)).length), (L.set k (L[k].1, L[k].2.plus t.1))[i].1 = (L[i]'(by simpa using hi)).1 := by
  intro i hi
  rw [List.getElem_set]
  split
  ·rename_i e; subst e; rfl
  ·rfl
 refine .of ?_ ?_ ?_
 ·rw [List.pairwise_iff_getElem]
  intro i j hi hj hij
  rw [key, key]
  exact h.lt hij (by simpa using hj)
 ·intro p hp
  obtain ⟨i, hi, rfl⟩ := List.mem_iff_getElem.1 hp
  rw [List.getElem_set]
  have hi' : i < L.length := by simpa using hi
  split
  ·rename_i e
   have h1 := h.at (List.getElem_mem hk)
   have : (addE S L[k].1 t L[k].1).1 = L[k].2.plus t.1 := by unfold addE; rw [if_pos rfl, h1.1]; rfl
   refine ⟨this.symm, ?_⟩
   show L[k].2.plus t.1 ≠ .zero
   rw [← this, GT.val_ne]
   unfold addE; rw [if_pos rfl]; exact GT.plus_ne ht
  ·rename_i e
   have h1 := h.at (List.getElem_mem hi')
   unfold addE
   rw [if_neg fun c => e (h.inj hi' hk c).symm]
   exact h1
 ·intro e he
  by_cases c : e = L[k].1
  ·exact ⟨(L[k].1, L[k].2.plus t.1), List.mem_iff_getElem.2 ⟨k, by simpa using hk, by simp⟩, c.symm⟩
  ·unfold addE at he
   rw [if_neg c] at he
   have hm := (h.mem e _).2 ⟨rfl, he⟩
   obtain ⟨i, hi, hp⟩ := List.mem_iff_getElem.1 hm
   have hik : k ≠ i := by rintro rfl; rw [hp] at c; exact c rfl
   exact ⟨L[i], List.mem_iff_getElem.2 ⟨i, by simpa using hi, by rw [List.getElem_set, if_neg hik]⟩, by rw [hp]⟩
theorem ToldL.ins {S : Edge → GT} {L : List (Edge × Tal)} (h : ToldL S L) {k : Nat} {e : Edge} (h1 : ∀ i (hi : i < L.length), i < k → ssLt L[i].1 e = true) (h2 : ∀ i (hi : i < L.length), k ≤ i → ssLt e L[i].1 = true) {t : GT} (ht : t ≠ .zero) : ToldL (addE S e t) (L.take k ++ [(e, t.1)] ++ L.drop k) := by
 have hne : ∀ p, p ∈ L → p.1 ≠ e := by
  intro p hp c
  obtain ⟨i, hi, rfl⟩ := List.mem_iff_getElem.1 hp
  rcases Nat.lt_or_ge i k with d | d
  ·have := h1 i hi d; rw [c, ssLt_irrefl] at this; simp at this
  ·have := h2 i hi d; rw [c, ssLt_irrefl] at this; simp at this
 have hS : S e = .zero := by
  refine Classical.byContradiction fun hn => ?_
  exact hne _ ((h.mem e _).2 ⟨rfl, GT.val_ne.2 hn⟩) rfl
 have hmem : ∀ p, p ∈ L.take k ++ [(e, t.1)] ++ L.drop k ↔ p ∈ L ∨ p = (e, t.1) := by
  intro p
  simp only [List.mem_append, List.mem_singleton]
  constructor
  ·rintro ((h | h) | h)
   ·exact .inl (List.mem_of_mem_take h)
   ·exact .inr h
   ·exact .inl (List.mem_of_mem_drop h)
  ·rintro (h | h)
   ·rw [← List.take_append_drop k L, List.mem_append] at h
    rcases h with h | h
    ·exact .inl (.inl h)
    ·exact .inr h
   ·exact .inl (.inr h)
 refine .of ?_ ?_ ?_
 ·have ha := h.asc
  rw [← List.take_append_drop k L, List.pairwise_append] at ha
  rw [List.pairwise_append]
  refine ⟨?_, ha.2.1, ?_⟩
  ·rw [List.pairwise_append]
   refine ⟨ha.1, by simp, fun a hm b hb => ?_⟩
   have : b = (e, t.1) := by simpa using hb
   subst this
   obtain ⟨i, hi, rfl⟩ := List.mem_iff_getElem.1 hm
   simp only [List.length_take] at hi
   rw [List.getElem_take]
   exact h1 i (by omega) (by omega)
  ·intro a hm b hb
   rcases List.mem_append.1 hm with hm | hm
   ·exact ha.2.2 a hm b hb
   ·have : a = (e, t.1) := by simpa using hm
    subst this
    obtain ⟨i, hi, rfl⟩ := List.mem_iff_getElem.1 hb
    rw [List.getElem_drop]
    exact h2 _ _ (by omega)
 ·intro p hp
  rcases (hmem p).1 hp with hp | rfl
  ·unfold addE; rw [if_neg (hne p hp)]; exact h.at hp
  ·unfold addE; rw [if_pos rfl, hS, GT.zero_plus]; exact ⟨rfl, GT.val_ne.2 ht⟩
 ·intro e' he'
  by_cases c : e' = e
  ·exact ⟨(e, t.1), (hmem _).2 (.inr rfl), c.symm⟩
  ·unfold addE at he'
   rw [if_neg c] at he'
   exact ⟨(e', (S e').1), (hmem _).2 (.inl ((h.mem _ _).2 ⟨rfl, he'⟩)), rfl⟩
end
end Go.Eng.S

namespace Go.Eng.S
open Go Go.Eng Go.Proofs
set_option linter.constructorNameAsVariable false
noncomputable section
attribute [local irreducible] bsel barsOf mergeB
theorem EdgeLess_pure (a b : Edge) (s : St) : CallsD P F.spoorref15_EdgeLess [edgeF a, edgeF b] s fun v s' => v = .bool (ssLt a b) ∧ s' = s := by
 refine CallsD.pure (fun s => (vc.spoorref15_EdgeLess_ok ?_).a) rfl s
 obtain ⟨a1, a2⟩ := a
 obtain ⟨b1, b2⟩ := b
 intro m1 s2 h2 m3 s4 h4
 have o1 := h2.own.ext h4.fwd
 have o3 := h4.own
 refine ⟨a1, o1.ld1 0 rfl, b1, o3.ld1 0 rfl, bsel_of (fun c => ⟨a1, o1.ld1 0 rfl, b1, o3.ld1 0 rfl, ?_⟩) fun c => ⟨a2, o1.ld1 1 rfl, b2, o3.ld1 1 rfl, ?_⟩⟩
 ·rw [sEq_eq] at c
  have : ¬ a1 = b1 := by simpa using c
  show AV.bool (sLt a1 b1) = _
  rw [ssLt, if_neg this]
 ·rw [sEq_eq] at c
  have : a1 = b1 := by simpa using c
  show AV.bool (sLt a2 b2) = _
  rw [ssLt, if_pos this]
theorem So.there {α : Type} {E : Enc α} {s : St} {x : AV} {l : List α} (h : So E s x l) : ∀ c, c ∈ blkOf x → s.h.get c ≠ none := by
 rcases h with ⟨rfl, _⟩ | ⟨b1, k1, n1, c1, rfl, _, q3, _⟩
 ·simp [blkOf]
 ·intro c hc
  have : c = b1 := by simpa [blkOf] using hc
  rw [this, q3]; simp
theorem _root_.Go.Eng.Frw.step' {M M' : List Nat} {s s1 s2 : St} (h : Frw M s s1) (h' : Frw M' s1 s2) (hm : ∀ c, c ∈ M' → s.h.get c = none) : Frw M s s2 :=
 ⟨fun c o hc ho => h'.1 c o (fun hx => by rw [hm c hx] at ho; simp at ho) (h.1 c o hc ho), Nat.le_trans h.2.1 h'.2.1, h'.2.2.trans h.2.2⟩
theorem Sl.there {α : Type} {E : Enc α} {s : St} {x : AV} {l : List α} (h : Sl E s x l) : ∀ c, c ∈ blkOf x → s.h.get c ≠ none := by
 rcases h with ⟨h, _⟩ | ⟨b1, o, n1, c1, rfl, _, q3⟩
 ·cases x <;> simp [slZero] at h <;> simp [blkOf]
 ·intro c hc
  have : c = b1 := by simpa [blkOf] using hc
  rw [this]; exact q3.there
theorem okB_len' {l : List Bar} (h : okB (-1) l = true) : l.length ≤ 1920 := by have := okB_len (by omega) h; omega
theorem RCopy_ok {s : St} {t : Tal} {x : AV} (hx : Sl barE s x t.l) (ht : t.ok = true) :
  CallsD P F.spoorref15_Copy [t.V x] s fun v s' => ((∃ z, v = t.V z ∧ Sl barE s' z t.l ∧ Gone s z) ∧ Frw [] s s') ∧ Fr s' := by
 refine CallsD.of fun hfr => vc.spoorref15_Copy_ok ?_
 intro m1 s2 h2 m3 s4 h4
 have f4 := h2.fwd.trans h4.fwd
 have o1 := h2.own.ext h4.fwd
 have o3 := h4.own
 have hl := okB_len' ht
 obtain ⟨z, s7, q1, q2, q3, q4, q5⟩ := So.appendAll (So.nil barE s4) (hx.ext f4) ty.sl_api_Bar rfl ty.api_Bar rfl rfl rfl (fun _ _ => rfl) (show (0 + t.l.length + (0 + t.l.length) / 4 + 600) * 16 ≤ pow48 by unfold pow48; omega) (show 0 + t.l.length ≤ pow48 by unfold pow48; omega) h4.fr
 rw [List.nil_append] at q2
 have q3 : Frw [] s4 s7 := q3
 have f7 := f4.trans q3
 have hg : Gone s4 z := fun c hc => by
  rcases q4 c hc with rfl | ⟨_, _, h⟩
  ·exact h4.fr _ (Nat.le_refl _)
  ·simp [blkOf] at h
 have hz := q2.sl
 refine ⟨x, o1.ld1 6 rfl, z, s7, q1, hz.one ?_⟩
 obtain ⟨s8, w1, o1', w2, w3, w4, w5⟩ := (o1.ext q3).wrN 6 [z] (hz.onesx []) (by simp)
 have e : splice [AV.int .u64 t.a.1, .int .u64 t.a.2, .int .u64 t.b.1, .int .u64 t.b.2, .int .u64 t.c.1, .int .u64 t.c.2, x] 6 [z] = t.C z := rfl
 rw [e] at o1'
 have n13 : m1 ≠ m3 := h4.ne h2.own.there
 have hz8 := hz.wr w2 hg o1.there
 have o3' := (o3.ext q3).fwd w2 (by simpa using n13.symm)
 obtain ⟨s16, w10, o3'', w11, w12, w13, w14⟩ := o3'.wrAll (t.C z) (hz8.onesx []) rfl
 refine ⟨s8, w1, _, _, _, _, _, _, z, o1'.all rfl, s16, w10, _, _, _, _, _, _, z, o3''.all rfl, ⟨z, rfl, hz8.wr w11 hg o3.there, hg.back f4⟩, ?_⟩
 exact (f7.step w2 (by simpa using h2.gone)).step w11 (by simpa using h2.fwd.none h4.gone (by simp))
structure AccS (s0 s : St) (x : AV) (L : List ET) : Prop where
 et : EtS s0 s x L
 sep : ∀ y, y ∈ L → ∀ c, c ∈ blkOf y.2.2 → c ∉ blkOf x
theorem EtS.ext {s0 s s' : St} {x : AV} {L : List ET} (h : EtS s0 s x L) (hf : Frw [] s s') : EtS s0 s' x L where
 so := h.so.ext hf
 bars := fun y hy => ⟨(h.bars y hy).1.ext hf, (h.bars y hy).2⟩
 new := h.new
theorem AccS.nil (s0 s : St) : AccS s0 s .nilslice [] := ⟨.nil _ _, by simp⟩
theorem AccS.ext {s0 s s' : St} {x : AV} {L : List ET} (h : AccS s0 s x L) (hf : Frw [] s s') : AccS s0 s' x L := ⟨h.et.ext hf, h.sep⟩
set_option maxRecDepth 4000 in
set_option maxHeartbeats 1000000 in
theorem with_ok {s0 s : St} {x y : AV} {L : List ET} {S : Edge → GT} {e : Edge} {t : Tal} (h : AccS s0 s x L) (f0 : Frw [] s0 s) (hL : ToldL S (etP L)) (hy : Sl barE s y t.l) (ht : t.ok = true) (hr : t.Rng) (hne : t ≠ .zero) (hlen : (L.length + 2 + (L.length + 2) / 4 + 600) * 104 ≤ pow48) :
  CallsD P F.spoorref15_with [x, edgeF e, t.V y] s fun v s' => ((∃ L', AccS s0 s' v L' ∧ ToldL (addE S e (toGT t)) (etP L')) ∧ Frw (blkOf x) s s') ∧ Fr s' := by
 refine CallsD.of fun hfr => vc.spoorref15_with_ok ?_
 obtain ⟨e1, e2⟩ := e
 intro m1 s2 h2 m3 s4 h4
 have f4 := h2.fwd.trans h4.fwd
 have htt : (toGT t) ≠ .zero := by rw [← GT.val_ne, toGT_val ht hr]; exact hne
 have eLlen : (etP L).length = L.length := by simp [etP]
 have eLat : ∀ i (hi : i < L.length), (etP L)[i]'(by rw [eLlen]; exact hi) = (L[i].1, L[i].2.1) := fun i hi => by simp [etP]
 have hlt : ∀ {i j : Nat} (hij : i < j) (hj : j < L.length), ssLt (L[i]'(by omega)).1 L[j].1 = true := by
  intro i j hij hj
  have := hL.lt hij (by rw [eLlen]; exact hj)
  rwa [eLat, eLat] at this
 have hbig : L.length < 4611686018427387904 := by unfold pow48 at hlen; omega
 have hbig2 : L.length + 2 ≤ pow48 := by unfold pow48 at hlen ⊢; omega
 have hso4 := h.et.so.ext f4
 refine hso4.sl.slen ⟨fun n8 n9 s10 m => ∃ lo hi : Nat, n8 = lo ∧ n9 = hi ∧ m = hi - lo ∧ lo ≤ hi ∧ hi ≤ L.length ∧ (∀ i (hi : i < L.length), i < lo → ssLt L[i].1 (e1, e2) = true) ∧ (∀ i (hi' : i < L.length), hi ≤ i → ssLt L[i].1 (e1, e2) = false) ∧ Frw [] s4 s10 ∧ Fr s10, ⟨_, 0, L.length, rfl, rfl, rfl, by omega, by omega, fun i hi c => by omega, fun i hi c => by omega, .refl _ _, h4.fr⟩, ?_⟩
 rintro _ _ s10 _ ⟨lo, hi, rfl, rfl, rfl, hlo, hhi, hlow, hhigh, f10, hfr10⟩
 have o1 := (h2.own.ext h4.fwd).ext f10
 have o3 := h4.own.ext f10
 refine bsel_of (fun c => ?_) fun c => ?_
 ·-- half of what is left
  have c : lo < hi := by simpa using c
  refine ⟨by omega, ?_⟩
  intro s12 hB
  have wm : IntKind.wrap .i64 (Int.tdiv (IntKind.wrap .i64 ((lo : Int) + (hi : Int))) 2) = (((lo + hi) / 2 : Nat) : Int) := by
   rw [wrap_i64 (a := (lo : Int) + hi) (by omega) (by omega), Int.tdiv_eq_ediv_of_nonneg (by omega), wrap_i64 (by omega) (by omega)]
   omega
  have hmid : (lo + hi) / 2 < L.length := by omega
  have so12 := (hso4.ext f10).ext hB.fwd
  refine so12.sl.ixs rfl wm hmid fun b o hR => ⟨_, _, hR.ldN 0 2 (by simp [etE, etF]), _, _, (o1.ext hB.fwd).all rfl, ?_⟩
  refine (EdgeLess_pure L[(lo + hi) / 2].1 (e1, e2) s12).mono ?_
  rintro _ s20 ⟨rfl, rfl⟩
  refine ⟨_, rfl, bsel_of (fun c1 => ?_) fun c1 => ?_⟩
  ·refine ⟨hi - ((lo + hi) / 2 + 1), by omega, (lo + hi) / 2 + 1, hi, ?_, rfl, rfl, by omega, by omega, fun i hi' ci => ?_, hhigh, f10.trans hB.fwd, hB.fr⟩
   ·rw [wm, wrap_i64 (by omega) (by omega)]; rfl
   ·rcases Nat.lt_or_ge i ((lo + hi) / 2) with d | d
    ·exact ssLt_trans (hlt d hmid) c1
    ·have : i = (lo + hi) / 2 := by omega
     subst this; exact c1
  ·refine ⟨(lo + hi) / 2 - lo, by omega, lo, (lo + hi) / 2, rfl, wm, rfl, by omega, by omega, hlow, fun i hi' ci => ?_, f10.trans hB.fwd, hB.fr⟩
   cases c2 : ssLt L[i].1 (e1, e2) with
   | false => rfl
   | true =>
    rcases Nat.eq_or_lt_of_le ci with d | d
    ·subst d; rw [c1] at c2; simp at c2
    ·rw [ssLt_trans (hlt d hi') c2] at c1; simp at c1
 ·have c : hi = lo := by simp at c; omega
  subst c
  intro s24 hB
  have f24 : Frw [] s4 s24 := f10.trans hB.fwd
  have g24 : Frw [] s s24 := f4.trans f24
  have o1 := o1.ext hB.fwd
  have o3 := o3.ext hB.fwd
  have so24 := hso4.ext f24
  have hbar : ∀ y, y ∈ L → Sl barE s24 y.2.2 y.2.1.l := fun y hy => (h.et.bars y hy).1.ext g24
  have ins : (∀ i (hi' : i < L.length), hi ≤ i → L[i].1 ≠ (e1, e2)) → optK (sliceV 9 x none (some (.int .i64 (hi : Int))) none) fun x62 =>
    ∃ (x63 : AV) (s64 : St), appendX D s24 T.sl_api_EdgeTally T.sl_api_EdgeTally .nilslice x62 = some (x63, s64) ∧ ∀ (s65 : St), Bump s64 8 s65 →
    ∃ (t66 t67 : ByteArray), ldN s65 (.ptr m1 0) 2 = some [.str t66, .str t67] ∧
    ∃ (n68 n69 n70 n71 n72 n73 : Int) (x74 : AV), ldN s65 (.ptr m3 0) 7 = some [.int .u64 n68, .int .u64 n69, .int .u64 n70, .int .u64 n71, .int .u64 n72, .int .u64 n73, x74] ∧
    CallsD P F.spoorref15_Copy [.agg [.int .u64 n68, .int .u64 n69, .int .u64 n70, .int .u64 n71, .int .u64 n72, .int .u64 n73, x74]] s65 fun x75 s76 =>
    ∃ (n77 n78 n79 n80 n81 n82 : Int) (x83 : AV), x75 = .agg [.int .u64 n77, .int .u64 n78, .int .u64 n79, .int .u64 n80, .int .u64 n81, .int .u64 n82, x83] ∧
    ldN s76 (.ptr m1 0) 2 = some [.str t66, .str t67] ∧
    ∃ (x84 : AV) (s85 : St), appendX D (hsetS s76 (s64.nx + 5) (cellsO [.str t66, .str t67, .int .u64 n77, .int .u64 n78, .int .u64 n79, .int .u64 n80, .int .u64 n81, .int .u64 n82, x83])) T.sl_api_EdgeTally T.sl_api_EdgeTally x63 (.slice (s64.nx + 5) 0 1 (.exact 1)) = some (x84, s85) ∧
    optK (sliceV 9 x (some (.int .i64 (hi : Int))) none none) fun x86 => ∃ (x87 : AV) (s88 : St), appendX D s85 T.sl_api_EdgeTally T.sl_api_EdgeTally x84 x86 = some (x87, s88) ∧ (∃ L', AccS s0 s88 x87 L' ∧ ToldL (addE S (e1, e2) (toGT t)) (etP L')) ∧ Frw (blkOf x) s s88 := by
   intro hno
   obtain ⟨x62, p1, p2, _⟩ := so24.take hhi
   obtain ⟨x86, p3, p4, _⟩ := so24.drop hhi
   rw [show etE.z = 9 from rfl] at p1 p3
   rw [p1, p3]
   simp only [optK]
   have hlt1 : (L.take hi).length = hi := by rw [List.length_take]; omega
   have hltd : (L.drop hi).length = L.length - hi := by rw [List.length_drop]
   obtain ⟨x63, s64, q1, q2, q3, q4, q5⟩ := So.appendAll (So.nil etE s24) p2 ty.sl_api_EdgeTally rfl ty.api_EdgeTally rfl rfl rfl (fun y hy => etF_ones (hbar y (List.mem_of_mem_take hy))) (Nat.le_trans (Nat.mul_le_mul_right 104 (by simp only [List.length_nil]; omega)) hlen) (Nat.le_trans (by simp only [List.length_nil]; omega) hbig2) hB.fr
   rw [List.nil_append] at q2
   have q3 : Frw [] s24 s64 := q3
   refine ⟨x63, s64, q1, ?_⟩
   intro s65 hB2
   have f65 := q3.trans hB2.fwd
   refine ⟨e1, e2, (o1.ext f65).all rfl, _, _, _, _, _, _, y, (o3.ext f65).all rfl, (RCopy_ok ((hy.ext g24).ext f65) ht).gro.mono ?_⟩
   rintro _ s76 ⟨⟨⟨⟨z, rfl, hz, hg⟩, f76⟩, hfr76⟩, hG⟩
   refine ⟨_, _, _, _, _, _, z, rfl, ((o1.ext f65).ext f76).all rfl, ?_⟩
   have hfree : s76.h.get (s64.nx + 5) = none := bump_free hB2 (by omega) hG
   have hlt5 : s64.nx + 5 < s76.nx := by have := hB2.lt; have := hG.2.1; omega
   have hx := hsetS_fwd (o := cellsO [.str e1, .str e2, .int .u64 t.a.1, .int .u64 t.a.2, .int .u64 t.b.1, .int .u64 t.b.2, .int .u64 t.c.1, .int .u64 t.c.2, z]) hfree
   have ox := hsetS_own (s := s76) (b := s64.nx + 5) (cs := [.str e1, .str e2, .int .u64 t.a.1, .int .u64 t.a.2, .int .u64 t.b.1, .int .u64 t.b.2, .int .u64 t.c.1, .int .u64 t.c.2, z])
   have hfx := hsetS_fr (o := cellsO [.str e1, .str e2, .int .u64 t.a.1, .int .u64 t.a.2, .int .u64 t.b.1, .int .u64 t.b.2, .int .u64 t.c.1, .int .u64 t.c.2, z]) hfr76 hlt5
   generalize hsetS s76 (s64.nx + 5) (cellsO [.str e1, .str e2, .int .u64 t.a.1, .int .u64 t.a.2, .int .u64 t.b.1, .int .u64 t.b.2, .int .u64 t.c.1, .int .u64 t.c.2, z]) = s77 at hx ox hfx ⊢
   have f77 : Frw [] s64 s77 := (hB2.fwd.trans f76).trans hx
   have hz77 := hz.ext hx
   obtain ⟨x84, s85, r1, r2, r3, r4, r5, r6⟩ := So.append' (a := (((e1, e2), t, z) : ET)) (q2.ext f77) ty.sl_api_EdgeTally rfl ty.api_EdgeTally rfl rfl rfl (etF_ones (y := ((e1, e2), t, z)) hz77) ox.rd rfl (Nat.le_trans (Nat.mul_le_mul_right 104 (by omega)) hlen) (Nat.le_trans (by omega) hbig2) hfx
   refine ⟨x84, s85, r1, ?_⟩
   have new63 : ∀ c, c ∈ blkOf x63 → s24.h.get c = none := by
    intro c hc
    rcases q4 c hc with rfl | ⟨_, _, h⟩
    ·exact hB.fr _ (Nat.le_refl _)
    ·simp [blkOf] at h
   have f85 : Frw [] s24 s85 := (q3.trans f77).step r3 new63
   obtain ⟨x87, s88, v1, v2, v3, v4, v5⟩ := So.appendAll r2 ((p4.ext f85)) ty.sl_api_EdgeTally rfl ty.api_EdgeTally rfl rfl rfl (fun y hy => etF_ones (hbar y (List.mem_of_mem_drop hy))) (Nat.le_trans (Nat.mul_le_mul_right 104 (by rw [List.length_append, hlt1, hltd]; simp only [List.length_cons, List.length_nil]; omega)) hlen) (Nat.le_trans (by rw [List.length_append, hlt1, hltd]; simp only [List.length_cons, List.length_nil]; omega) hbig2) r5
   refine ⟨x87, s88, v1, ⟨L.take hi ++ [((e1, e2), t, z)] ++ L.drop hi, ⟨⟨v2, fun y hy => ?_, ?_⟩, fun y hy => ?_⟩, ?_⟩, ?_⟩
   ·have n77 : ∀ c, c ∈ blkOf x84 → s77.h.get c = none := by
     rw [r4]; intro c hc
     have : c = s77.nx := by simpa using hc
     rw [this]; exact hfx _ (Nat.le_refl _)
    have f88 : Frw [] s24 s88 := f85.step v3 fun c hc => (q3.trans f77).none (n77 c hc) (by simp)
    rcases List.mem_append.1 hy with hy | hy
    ·rcases List.mem_append.1 hy with hy | hy
     ·exact ⟨(hbar y (List.mem_of_mem_take hy)).ext f88, (h.et.bars y (List.mem_of_mem_take hy)).2⟩
     ·have : y = ((e1, e2), t, z) := by simpa using hy
      subst this
      refine ⟨hz77.beside (r3.step' v3 n77) fun c hc => .inr fun hcz => ?_, fun c hc => ((f0.trans g24).trans f65).none (hg c hc) (by simp)⟩
      exact hB2.fwd.gone (So.there q2 c hc) (by simp) (hg c hcz)
    ·exact ⟨(hbar y (List.mem_of_mem_drop hy)).ext f88, (h.et.bars y (List.mem_of_mem_drop hy)).2⟩
   ·intro c hc
    have : s77.h.get c = none := by
     rcases v4 c hc with rfl | ⟨_, _, hc⟩
     ·exact hfx _ r3.2.1
     ·rw [r4] at hc
      have : c = s77.nx := by simpa using hc
      rw [this]; exact hfx _ (Nat.le_refl _)
    exact ((f0.trans g24).trans (q3.trans f77)).none this (by simp)
   ·intro c hc hc'
    have h77 : s77.h.get c = none := by
     rcases v4 c hc' with rfl | ⟨_, _, hc⟩
     ·exact hfx _ r3.2.1
     ·rw [r4] at hc
      have : c = s77.nx := by simpa using hc
      rw [this]; exact hfx _ (Nat.le_refl _)
    have old : ∀ y, y ∈ L → c ∈ blkOf y.2.2 → False := fun y hy hc => Sl.there ((hbar y hy).ext (q3.trans f77)) c hc h77
    rcases List.mem_append.1 hy with hy | hy
    ·rcases List.mem_append.1 hy with hy | hy
     ·exact old y (List.mem_of_mem_take hy) hc
     ·have : y = ((e1, e2), t, z) := by simpa using hy
      subst this
      exact Sl.there hz77 c hc h77
    ·exact old y (List.mem_of_mem_drop hy) hc
   ·have e3 : etP (L.take hi ++ [((e1, e2), t, z)] ++ L.drop hi) = (etP L).take hi ++ [((e1, e2), (toGT t).1)] ++ (etP L).drop hi := by
     rw [toGT_val ht hr]; simp [etP, List.map_take, List.map_drop]
    rw [e3]
    refine hL.ins (fun i hi' ci => ?_) (fun i hi' ci => ?_) htt
    ·rw [eLlen] at hi'
     rw [eLat i hi']; exact hlow i hi' ci
    ·rw [eLlen] at hi'
     rw [eLat i hi']
     cases c2 : ssLt (e1, e2) L[i].1 with
     | true => rfl
     | false => exact absurd (ssLt_total (hhigh i hi' ci) c2) (hno i hi' ci)
   ·have n77 : ∀ c, c ∈ blkOf x84 → s77.h.get c = none := by
     rw [r4]; intro c hc
     have : c = s77.nx := by simpa using hc
     rw [this]; exact hfx _ (Nat.le_refl _)
    have f88 : Frw [] s24 s88 := f85.step v3 fun c hc => (q3.trans f77).none (n77 c hc) (by simp)
    exact (g24.trans f88).mono (by simp)
  refine so24.sl.slen (bsel_of (fun c => ?_) fun c => ?_)
  ·have c : hi < L.length := by simpa using c
   refine so24.sl.ixs rfl rfl c fun b o hR => ⟨_, _, hR.ldN 0 2 (by simp [etE, etF]), _, _, o1.all rfl, bsel_of (fun c1 => ?_) fun c1 => ?_⟩
   ·have c1 : L[hi].1 = (e1, e2) := by
     rw [if_pos rfl, sEq_eq, sEq_eq] at c1
     simp at c1
     exact Prod.ext c1.1 c1.2
    intro s32 hB2
    have g32 := g24.trans hB2.fwd
    have so32 := so24.ext hB2.fwd
    have hat := hL.at (List.getElem_mem (by rw [eLlen]; exact c : hi < (etP L).length))
    rw [eLat hi c] at hat
    have hat1 : L[hi].2.1 = (S L[hi].1).1 := hat.1
    refine so32.sl.ixs rfl rfl c fun b o hR => ⟨_, _, _, _, _, _, L[hi].2.2, hR.ldN 2 7 (by simp [etE, etF]), _, _, _, _, _, _, y, (o3.ext hB2.fwd).all rfl, ?_⟩
    refine (RPlus_ok (t := L[hi].2.1) ((hbar _ (List.getElem_mem c)).ext hB2.fwd) (hy.ext g32) (by rw [hat1]; exact (S L[hi].1).2.2) hr (by rw [hat1]; exact (S L[hi].1).2.1) ht).mono ?_
    rintro _ s50 ⟨⟨⟨z, rfl, hz, hg⟩, f50⟩, hfr50⟩
    refine ⟨_, _, _, _, _, _, z, 0, rfl, ?_⟩
    have so50 := so32.ext f50
    refine so50.ixsWr (j := 2) (vs := (L[hi].2.1.plus t).C z) (a := ((L[hi].1, L[hi].2.1.plus t, z) : ET)) rfl rfl c (hz.onesx []) (by simp [Tal.C, etE]) rfl fun b o s61 p1 p2 p3 p4 p5 p6 => ⟨s61, p2, ?_⟩
    have hbx : b ∈ blkOf x := by rw [p1]; simp
    have hzb : b ∉ blkOf z := fun hc => So.there so32 b hbx (hg b hc)
    refine ⟨⟨L.set hi (L[hi].1, L[hi].2.1.plus t, z), ⟨⟨p3, fun y hy => ?_, h.et.new⟩, fun y hy => ?_⟩, ?_⟩, ((g32.trans f50).mono (by simp)).trans (p4.mono (by rw [p1]; exact fun _ h => h))⟩
    ·rcases List.mem_or_eq_of_mem_set hy with hy | rfl
     ·refine ⟨((hbar y hy).ext (hB2.fwd.trans f50)).beside p4 fun c hc => .inr fun hcy => ?_, (h.et.bars y hy).2⟩
      have : c = b := by simpa using hc
      subst this
      exact h.sep y hy _ hcy hbx
     ·refine ⟨hz.beside p4 fun c hc => .inr fun hcy => ?_, fun c hc => (f0.trans g32).none (hg c hc) (by simp)⟩
      have : c = b := by simpa using hc
      subst this
      exact hzb hcy
    ·rcases List.mem_or_eq_of_mem_set hy with hy | rfl
     ·exact h.sep y hy
     ·intro c hc hcx
      rw [p1] at hcx
      have : c = b := by simpa using hcx
      subst this
      exact hzb hc
    ·have h3 := hL.set (k := hi) (by rw [eLlen]; exact c) htt
     rw [eLat hi c, toGT_val ht hr] at h3
     have e3 : etP (L.set hi (L[hi].1, L[hi].2.1.plus t, z)) = (etP L).set hi (L[hi].1, L[hi].2.1.plus t) := by simp [etP, List.map_set]
     rw [e3, ← c1]; exact h3
   ·refine ins fun i hi' ci c2 => ?_
    rw [if_pos rfl, sEq_eq, sEq_eq] at c1
    rcases Nat.eq_or_lt_of_le ci with d | d
    ·subst d
     rw [c2] at c1; simp at c1
    ·have h1 := hhigh hi c (Nat.le_refl _)
     have h2 := hlt d hi'
     rw [c2, h1] at h2; simp at h2
  ·exact ins fun i hi' ci c2 => by simp at c; omega
end
end Go.Eng.S

namespace Go.Eng.S
open Go Go.Eng Go.Proofs
set_option linter.constructorNameAsVariable false
noncomputable section
attribute [local irreducible] bsel barsOf mergeB
def lsE : Enc (AV × List ET) := ⟨fun p => [p.1], 1, by decide, fun _ => rfl⟩
theorem etP_append (a b : List ET) : etP (a ++ b) = etP a ++ etP b := by simp [etP]
theorem etP_len (a : List ET) : (etP a).length = a.length := by simp [etP]
theorem etP_at {L : List ET} {i : Nat} (hi : i < L.length) : (etP L)[i]'(by rw [etP_len]; exact hi) = (L[i].1, L[i].2.1) := by simp [etP]
theorem wrap_succ {k : Nat} (h : k < 9223372036854775807) : IntKind.wrap .i64 ((k : Int) + 1) = ((k + 1 : Nat) : Int) := by rw [wrap_i64 (by omega) (by omega)]; rfl
structure FineE (s : St) (y : ET) : Prop where
 bar : Sl barE s y.2.2 y.2.1.l
 ok : y.2.1.ok = true
 rng : y.2.1.Rng
 ne : y.2.1 ≠ .zero
set_option maxRecDepth 4000 in
theorem Sum_ok {s : St} {a0 : AV} {XS : List (AV × List ET)} (h : Sl lsE s a0 XS) (hi : ∀ p, p ∈ XS → Sl etE s p.1 p.2 ∧ ∀ y, y ∈ p.2 → FineE s y) {E0 : List Edge} (hE : ∀ p, p ∈ XS → ∀ y, y ∈ p.2 → y.1 ∈ E0) (hlen : (E0.length + 2 + (E0.length + 2) / 4 + 600) * 104 ≤ pow48) (hXS : XS.length < 4611686018427387904) (hX2 : ∀ p, p ∈ XS → p.2.length < 4611686018427387904) :
  CallsD P F.spoorref15_Sum [a0] s fun v s' => ((∃ L, EtS s s' v L ∧ ToldL (sumE (etP (XS.flatMap (·.2)))) (etP L)) ∧ Frw [] s s') ∧ Fr s' := by
 refine CallsD.of fun hfr => vc.spoorref15_Sum_ok ⟨fun x3 n4 s5 m => ∃ (i : Nat) (L : List ET), n4 = i ∧ m = XS.length - i ∧ i ≤ XS.length ∧ AccS s s5 x3 L ∧ ToldL (sumE (etP ((XS.take i).flatMap (·.2)))) (etP L) ∧ Frw [] s s5 ∧ Fr s5, ⟨_, 0, [], rfl, rfl, by omega, .nil _ _, ToldL.none fun e => rfl, .refl _ _, hfr⟩, ?_⟩
 rintro x3 _ s5 _ ⟨i, L, rfl, rfl, hi', hacc, htold, f5, hfr5⟩
 refine (h.ext f5).slen (bsel_of (fun c => ?_) fun c => ?_)
 ·have c : i < XS.length := by simpa using c
  have hX := hi XS[i] (List.getElem_mem c)
  have hbig := hX2 XS[i] (List.getElem_mem c)
  refine ⟨fun x10 n11 s12 m => ∃ (j : Nat) (L : List ET), n11 = j ∧ m = XS[i].2.length - j ∧ j ≤ XS[i].2.length ∧ AccS s s12 x10 L ∧ ToldL (sumE (etP ((XS.take i).flatMap (·.2) ++ XS[i].2.take j))) (etP L) ∧ Frw [] s s12 ∧ Fr s12, ⟨_, 0, L, rfl, rfl, by omega, hacc, by simpa using htold, f5, hfr5⟩, ?_⟩
  rintro x10 _ s12 _ ⟨j, L2, rfl, rfl, hj, hacc2, htold2, f12, hfr12⟩
  refine (h.ext f12).ixs rfl rfl c fun b o hR => ⟨XS[i].1, hR.ld1 0 rfl, (hX.1.ext f12).slen (bsel_of (fun c2 => ?_) fun c2 => ?_)⟩
  ·have c2 : j < XS[i].2.length := by simpa using c2
   intro s18 hB
   have f18 := f12.trans hB.fwd
   refine (h.ext f18).ixs rfl rfl c fun b o hR => ⟨XS[i].1, hR.ld1 0 rfl, (hX.1.ext f18).ixs rfl rfl c2 fun b2 o2 hR2 => ⟨_, _, hR2.ldN 0 2 (by simp [etE, etF]), ?_⟩⟩
   refine (h.ext f18).ixs rfl rfl c fun b o hR => ⟨XS[i].1, hR.ld1 0 rfl, (hX.1.ext f18).ixs rfl rfl c2 fun b2 o2 hR2 => ⟨_, _, _, _, _, _, XS[i].2[j].2.2, hR2.ldN 2 7 (by simp [etE, etF]), ?_⟩⟩
   have hy := hX.2 XS[i].2[j] (List.getElem_mem c2)
   have hL2 : L2.length ≤ E0.length := by
    have := told_len2 (E0 := E0) htold2 fun y hy => by
     obtain ⟨y', hy', rfl⟩ := List.mem_map.1 hy
     rcases List.mem_append.1 hy' with h1 | h1
     ·obtain ⟨p, hp, hyp⟩ := List.mem_flatMap.1 h1
      exact hE p (List.mem_of_mem_take hp) y' hyp
     ·exact hE XS[i] (List.getElem_mem c) y' (List.mem_of_mem_take h1)
    rwa [etP_len] at this
   have hb : (L2.length + 2 + (L2.length + 2) / 4 + 600) * 104 ≤ pow48 := Nat.le_trans (Nat.mul_le_mul_right 104 (by omega)) hlen
   refine (with_ok (t := XS[i].2[j].2.1) (e := XS[i].2[j].1) (hacc2.ext hB.fwd) f18 htold2 (hy.bar.ext f18) hy.ok hy.rng hy.ne hb).mono ?_
   rintro v s39 ⟨⟨⟨L', h1, h2⟩, h3⟩, h4⟩
   refine ⟨v, rfl, XS[i].2.length - (j + 1), by omega, j + 1, L', wrap_succ (by omega), rfl, by omega, h1, ?_, f18.step h3 hacc2.et.new, h4⟩
   rw [← List.take_append_getElem c2, ← List.append_assoc, etP_append, show etP [XS[i].2[j]] = [(XS[i].2[j].1, XS[i].2[j].2.1)] from rfl, sumE_snoc]
   exact h2
  ·have c2 : j = XS[i].2.length := by simp at c2; omega
   refine ⟨XS.length - (i + 1), by omega, i + 1, L2, wrap_succ (by omega), rfl, by omega, hacc2, ?_, f12, hfr12⟩
   rw [c2, List.take_length] at htold2
   rw [← List.take_append_getElem c, List.flatMap_append, List.flatMap_cons, List.flatMap_nil, List.append_nil]
   exact htold2
 ·have c : i = XS.length := by simp at c; omega
  subst c
  rw [List.take_length] at htold
  exact ⟨⟨L, hacc.et, htold⟩, f5⟩
theorem SameTally_ok {s : St} {t : Tal} {x y : AV} (hx : Sl barE s x t.l) (hy : Sl barE s y t.l) (hn : t.l.length < 4611686018427387904) :
  CallsD P F.spoorref15_SameTally [t.V x, t.V y] s fun v s' => (v = .bool true ∧ Frw [] s s') ∧ Fr s' := by
 refine CallsD.of fun hfr => vc.spoorref15_SameTally_ok ?_
 intro m1 s2 h2 m3 s4 h4
 have f4 := h2.fwd.trans h4.fwd
 have o1 := h2.own.ext h4.fwd
 have o3 := h4.own
 refine ⟨_, _, o1.ldN 0 2 (by simp), _, _, o3.ldN 0 2 (by simp), bsel_of (fun c => by simp at c) fun _ => ⟨_, _, o1.ldN 2 2 (by simp), _, _, o3.ldN 2 2 (by simp), bsel_of (fun c => by simp at c) fun _ => ⟨_, _, o1.ldN 4 2 (by simp), _, _, o3.ldN 4 2 (by simp), bsel_of (fun c => by simp at c) fun _ => ⟨x, o1.ld1 6 rfl, (hx.ext f4).slen ⟨y, o3.ld1 6 rfl, (hy.ext f4).slen (bsel_of (fun c => by simp at c) fun _ => ?_)⟩⟩⟩⟩⟩
 refine ⟨fun n23 s24 m => ∃ k : Nat, n23 = k ∧ m = t.l.length - k ∧ k ≤ t.l.length ∧ Frw [] s4 s24 ∧ Fr s24, ⟨_, 0, rfl, rfl, by omega, .refl _ _, h4.fr⟩, ?_⟩
 rintro _ s24 _ ⟨k, rfl, rfl, hk, f24, hfr24⟩
 refine ⟨x, (o1.ext f24).ld1 6 rfl, (hx.ext (f4.trans f24)).slen (bsel_of (fun c => ?_) fun c => ⟨rfl, f4.trans f24⟩)⟩
 have c : k < t.l.length := by simpa using c
 intro s28 hB
 have f28 := f24.trans hB.fwd
 refine ⟨x, (o1.ext f28).ld1 6 rfl, (hx.ext (f4.trans f28)).ixs rfl rfl c fun b o hR => ⟨_, _, hR.all rfl, y, (o3.ext f28).ld1 6 rfl, (hy.ext (f4.trans f28)).ixs rfl rfl c fun b o hR => ⟨_, _, hR.all rfl, bsel_of (fun c => by simp at c) fun _ => ?_⟩⟩⟩
 exact ⟨t.l.length - (k + 1), by omega, k + 1, wrap_succ (by omega), rfl, by omega, f28, hB.fr⟩
theorem SameEdges_ok {s : St} {x y : AV} {L1 L2 : List ET} (h1 : Sl etE s x L1) (h2 : Sl etE s y L2) (b1 : ∀ z, z ∈ L1 → Sl barE s z.2.2 z.2.1.l) (b2 : ∀ z, z ∈ L2 → Sl barE s z.2.2 z.2.1.l) (he : etP L1 = etP L2) (hn : L1.length < 4611686018427387904) (hn2 : ∀ z, z ∈ L1 → z.2.1.l.length < 4611686018427387904) :
  CallsD P F.spoorref15_SameEdges [x, y] s fun v s' => (v = .bool true ∧ Frw [] s s') ∧ Fr s' := by
 refine CallsD.of fun hfr => vc.spoorref15_SameEdges_ok ?_
 have hl : L1.length = L2.length := by rw [← etP_len, he, etP_len]
 refine h1.slen (h2.slen (bsel_of (fun c => by simp [hl] at c) fun _ => ?_))
 refine ⟨fun n s6 m => ∃ k : Nat, n = k ∧ m = L1.length - k ∧ k ≤ L1.length ∧ Frw [] s s6 ∧ Fr s6, ⟨_, 0, rfl, rfl, by omega, .refl _ _, hfr⟩, ?_⟩
 rintro _ s6 _ ⟨k, rfl, rfl, hk, f6, hfr6⟩
 refine (h1.ext f6).slen (bsel_of (fun c => ?_) fun c => ⟨rfl, f6⟩)
 have c : k < L1.length := by simpa using c
 have c' : k < L2.length := by omega
 have hk' : (L1[k].1, L1[k].2.1) = (L2[k].1, L2[k].2.1) := by
  rw [← etP_at c, ← etP_at c']
  simp only [he]
 simp only [Prod.mk.injEq] at hk'
 intro s9 hB
 have f9 := f6.trans hB.fwd
 have g1 := h1.ext f9
 have g2 := h2.ext f9
 refine g1.ixs rfl rfl c fun b o hR => ⟨_, _, hR.ldN 0 2 (by simp [etE, etF]), g2.ixs rfl rfl c' fun b o hR => ⟨_, _, hR.ldN 0 2 (by simp [etE, etF]), bsel_of (fun cc => ?_) fun _ => ?_⟩⟩
 ·rw [if_neg (by simp), sEq_eq, sEq_eq, hk'.1] at cc
  simp at cc
 ·refine g1.ixs rfl rfl c fun b o hR => ⟨_, _, _, _, _, _, L1[k].2.2, hR.ldN 2 7 (by simp [etE, etF]), g2.ixs rfl rfl c' fun b o hR => ⟨_, _, _, _, _, _, L2[k].2.2, hR.ldN 2 7 (by simp [etE, etF]), ?_⟩⟩
  have hb := b2 L2[k] (List.getElem_mem c')
  rw [← hk'.2] at hb ⊢
  refine (SameTally_ok (t := L1[k].2.1) ((b1 _ (List.getElem_mem c)).ext f9) (hb.ext f9) (hn2 _ (List.getElem_mem c))).mono ?_
  rintro _ s37 ⟨⟨rfl, f37⟩, hfr37⟩
  refine ⟨true, rfl, bsel_of (fun c => by simp at c) fun _ => ?_⟩
  exact ⟨L1.length - (k + 1), by omega, k + 1, wrap_succ (by omega), rfl, by omega, f9.trans f37, hfr37⟩
end
end Go.Eng.S

namespace Go.Eng.S
open Go Go.Eng Go.Proofs
set_option linter.constructorNameAsVariable false
noncomputable section
attribute [local irreducible] bsel barsOf mergeB
def idxN (n : Nat) : Nat := if n < 64 then n else 64 + 32 * (n.log2 - 6) + n / 2 ^ (n.log2 - 5) - 32
theorem idxN_lt {n : Nat} (h : n < 18446744073709551616) : idxN n < 1920 := by
 unfold idxN
 split
 ·omega
 ·rename_i hn
  have h0 : n ≠ 0 := by omega
  have h1 : 2 ^ n.log2 ≤ n := Nat.log2_self_le h0
  have h2 : n < 2 ^ (n.log2 + 1) := Nat.lt_log2_self
  generalize n.log2 = k at h1 h2
  have hk : k < 64 := by
   refine Classical.byContradiction fun hc => ?_
   have : 2 ^ 64 ≤ 2 ^ k := Nat.pow_le_pow_right (by omega) (by omega)
   omega
  have hk6 : 6 ≤ k := by
   refine Classical.byContradiction fun hc => ?_
   have : 2 ^ (k + 1) ≤ 2 ^ 6 := Nat.pow_le_pow_right (by omega) (by omega)
   omega
  have : n / 2 ^ (k - 5) < 64 := by
   rw [Nat.div_lt_iff_lt_mul (Nat.pow_pos (by omega))]
   have e : 2 ^ (k + 1) = 64 * 2 ^ (k - 5) := by
    rw [show (64 : Nat) = 2 ^ 6 from rfl, ← Nat.pow_add]; congr 1; omega
   omega
  omega
structure CallR where
 hour : Int
 edge : Edge
 bad : Bool
 self : Int
def callF (c : CallR) : List AV := [.int .i64 c.hour, .str c.edge.1, .str c.edge.2, .bool c.bad, .int .u64 c.self]
def CallR.Rng (c : CallR) : Prop := (-9223372036854775808 ≤ c.hour ∧ c.hour < 9223372036854775808) ∧ 0 ≤ c.self ∧ c.self ≤ M64
def oneT (c : CallR) : Tal := ⟨(0, 1), (0, if c.bad = true then 1 else 0), (0, c.self), [((idxN c.self.toNat : Int), 1)]⟩
theorem oneT_ok {c : CallR} (h : c.Rng) : (oneT c).ok = true := by
 have := idxN_lt (n := c.self.toNat) (by have := h.2; unfold M64 at this; omega)
 simp [Tal.ok, oneT, okB]
 omega
theorem oneT_rng {c : CallR} (h : c.Rng) : (oneT c).Rng where
 a := ⟨⟨by simp [oneT], by simp [oneT, M64]⟩, by simp [oneT], by simp [oneT, M64]⟩
 b := by
  refine ⟨⟨by simp [oneT], by simp [oneT, M64]⟩, ?_⟩
  simp only [oneT]
  split <;> simp [M64]
 c := ⟨⟨by simp [oneT], by simp [oneT, M64]⟩, h.2.1, h.2.2⟩
 l := fun p hp => by
  have := idxN_lt (n := c.self.toNat) (by have := h.2; unfold M64 at this; omega)
  have : p = ((idxN c.self.toNat : Int), 1) := by simpa [oneT] using hp
  subst this
  refine ⟨?_, ?_, ?_, ?_⟩ <;> simp only [M64] <;> omega
theorem oneT_ne (c : CallR) : oneT c ≠ .zero := fun h => by simp [oneT, Tal.zero] at h
end
end Go.Eng.S

namespace Go.Eng.S
open Go Go.Eng Go.Proofs
set_option linter.constructorNameAsVariable false
noncomputable section
attribute [local irreducible] bsel barsOf mergeB
theorem Roll.trim {s : St} {r : Nat} {fan : Int} {G : RollF} {fp : List Nat} (h : Roll s r fan G fp) : ∃ fp', Roll s r fan G fp' ∧ (∀ c, c ∈ fp' → c ∈ fp) ∧ ∀ c, c ∈ fp' → s.h.get c ≠ none := by
 obtain ⟨m, M, h⟩ := h
 have hin : ∀ {c}, c ∈ fp → s.h.get c ≠ none → c ∈ fp.filter fun c => (s.h.get c).isSome := by
  intro c h1 h2
  refine List.mem_filter.2 ⟨h1, ?_⟩
  cases e : s.h.get c with
  | none => exact absurd e h2
  | some => rfl
 refine ⟨fp.filter fun c => (s.h.get c).isSome, ⟨m, M, h.own, h.map, h.good, hin h.rf h.own.there, hin h.mf h.map.there, fun hh x hx => ?_, h.none, h.inj⟩, fun c hc => (List.mem_filter.1 hc).1, fun c hc => ?_⟩
 ·obtain ⟨b, N, h1, h2, h3, h4⟩ := h.inner hh x hx
  refine ⟨b, N, h1, ⟨h2.map, h2.ne, fun e v hv => ?_, h2.none⟩, hin h3 h2.map.there, h4⟩
  obtain ⟨z, g1, g2, g3, g4⟩ := h2.some e v hv
  exact ⟨z, g1, g2, g3, fun c hc => hin (g4 c hc) (g2.there c hc)⟩
 ·have := (List.mem_filter.1 hc).2
  intro e
  rw [e] at this; simp at this
def oneG (c : CallR) : GT := toGT (oneT c)
def gK : List CallR → Int → Edge → GT
 | [], _, _ => .zero
 | c :: r, h, e => if c.hour = h ∧ c.edge = e then (oneG c).plus (gK r h e) else gK r h e
theorem gK_snoc : ∀ (K : List CallR) (c : CallR) (h : Int) (e : Edge), gK (K ++ [c]) h e = if c.hour = h ∧ c.edge = e then (gK K h e).plus (oneG c) else gK K h e
 | [], c, h, e => by
  simp only [List.nil_append, gK]
  split
  ·exact GT.comm _ _
  ·rfl
 | d :: r, c, h, e => by
  simp only [List.cons_append, gK, gK_snoc r c h e]
  by_cases h1 : d.hour = h ∧ d.edge = e
  ·rw [if_pos h1, if_pos h1]
   split
   ·exact (GT.assoc _ _ _).symm
   ·rfl
  ·rw [if_neg h1, if_neg h1]
theorem gK_ne {K : List CallR} {h : Int} {e : Edge} (hn : gK K h e ≠ .zero) : e ∈ K.map (·.edge) := by
 induction K with
 | nil => exact absurd rfl hn
 | cons c r ih =>
  simp only [gK] at hn
  split at hn
  ·rename_i hc
   exact List.mem_map.2 ⟨c, List.mem_cons_self .., hc.2⟩
  ·rw [List.map_cons]
   exact List.mem_cons_of_mem _ (ih hn)
theorem gsum_if {H : List Int} (hH : H.Nodup) (f : Int → GT) (k : Int) (a : GT) : gsum (H.map fun h => if k = h then a.plus (f h) else f h) = if k ∈ H then a.plus (gsum (H.map f)) else gsum (H.map f) := by
 induction H with
 | nil => simp
 | cons x r ih =>
  obtain ⟨h1, h2⟩ := List.nodup_cons.1 hH
  simp only [List.map_cons, gsum]
  rw [ih h2]
  by_cases e : k = x
  ·subst e
   rw [if_pos rfl, if_neg h1, if_pos (List.mem_cons_self ..), GT.assoc]
  ·rw [if_neg e]
   by_cases hk : k ∈ r
   ·rw [if_pos hk, if_pos (List.mem_cons_of_mem _ hk), ← GT.assoc, GT.comm (f x) a, GT.assoc]
   ·rw [if_neg hk, if_neg (by simp [e, hk])]
def callsIn (a b : Int) (K : List CallR) : List (Edge × Tal) := (K.filter fun c => decide (a ≤ c.hour) && decide (c.hour < b)).map fun c => (c.edge, oneT c)
theorem sumE_calls (a b : Int) (K : List CallR) (e : Edge) : sumE (callsIn a b K) e = gsum ((hrs a b).map fun h => gK K h e) := by
 induction K with
 | nil =>
  symm
  refine gsum_zero fun x hx => ?_
  obtain ⟨h, _, rfl⟩ := List.mem_map.1 hx
  rfl
 | cons c r ih =>
  have e1 : (fun h => gK (c :: r) h e) = fun h => if c.hour = h then (if c.edge = e then (oneG c).plus (gK r h e) else gK r h e) else gK r h e := by
   funext h
   simp only [gK]
   by_cases h1 : c.hour = h <;> by_cases h2 : c.edge = e <;> simp [h1, h2]
  rw [e1]
  by_cases h2 : c.edge = e
  ·simp only [h2, if_true]
   rw [gsum_if (hrs_nodup a b), ← ih]
   unfold callsIn
   by_cases h3 : c.hour ∈ hrs a b
   ·rw [if_pos h3, List.filter_cons_of_pos (by simpa using mem_hrs.1 h3), List.map_cons]
    unfold sumE
    rw [List.filter_cons_of_pos (by simpa using h2), List.map_cons]
    rfl
   ·rw [if_neg h3, List.filter_cons_of_neg (by rw [mem_hrs] at h3; simpa using h3)]
  ·simp only [h2, if_false, ite_self]
   rw [← ih]
   unfold callsIn
   by_cases h3 : c.hour ∈ hrs a b
   ·rw [List.filter_cons_of_pos (by simpa using mem_hrs.1 h3), List.map_cons]
    unfold sumE
    rw [List.filter_cons_of_neg (by simpa using h2)]
   ·rw [List.filter_cons_of_neg (by rw [mem_hrs] at h3; simpa using h3)]
def Holds (G : RollF) (K : List CallR) : Prop := ∀ h e, G h e = (gK K h e).1
theorem Holds.put {G : RollF} {K : List CallR} (h : Holds G K) {c : CallR} (hc : c.Rng) : Holds (setF G c.hour c.edge ((G c.hour c.edge).plus (oneT c))) (K ++ [c]) := by
 intro hh e
 rw [gK_snoc]
 unfold setF
 by_cases h1 : c.hour = hh ∧ c.edge = e
 ·rw [if_pos h1, if_pos ⟨h1.1.symm, h1.2.symm⟩, h, h1.1, h1.2]
  show _ = (gK K hh e).1.plus (oneG c).1
  unfold oneG
  rw [toGT_val (oneT_ok hc) (oneT_rng hc)]
 ·rw [if_neg h1, if_neg (fun h => h1 ⟨h.1.symm, h.2.symm⟩)]
  exact h hh e
theorem Holds.sum {G : RollF} {K : List CallR} (h : Holds G K) (hG : RollG G) (a b : Int) : sumH G hG a b = sumE (callsIn a b K) := by
 funext e
 rw [sumE_calls]
 unfold sumH
 congr 1
 exact List.map_congr_left fun x _ => Subtype.ext (h x e)
theorem Holds.mem {G : RollF} {K : List CallR} (h : Holds G K) (hh : Int) (e : Edge) (hn : G hh e ≠ .zero) : e ∈ K.map (·.edge) := by
 rw [h] at hn
 exact gK_ne (GT.val_ne.1 hn)
end
end Go.Eng.S

