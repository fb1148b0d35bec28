/-
  The library's sort of edges' tallies lies in the program.
  The sums of a range: sorting.
  The sums of a range: how they are kept while one goes through a rollup.
  The sums of a range: the walk.
  A range's sums, as the program tells them.
  The reference's own sums of bars.
  Lists of edges' sums: one more is put to them; plain laws.
  One more edge's tally is put to a list of them: the walk.
  Lists of edges' sums: put together, compared.
  A call's tally.
  Calls put to a rollup, a range of them: plain laws, and a rollup's own blocks.
  Calls put to a rollup, a range of them: the walk.
  A rollup's blocks alone; a list of sums as it may be laid.
  The sums of a range as one thing.
  A rollup that puts are put to.
  A range's windows.
  A range is covered by windows.
-/
import Derived.Shelf.SlSortCmp.NoneTotal
import Derived.Test.YteidlkjofcbcmaaProg
import Derived.Test.YteidlkjofcbcmaaSPatoSRe
import Derived.Test.YteidlkjofcbcmaaSVato3
import Derived.Test.YteidlkjofcbcmaaW15to25
import Derived.Test.YteidlkjofcbcmaaSVr4to2
namespace Go.Proofs
open Go.Shelf
def Try.sortET_ren : Go.Shelf.Ren := ⟨fun | 6 => 45 | 15 => 59 | 14 => 60 | 28 => 81 | 29 => 82 | 20 => 69 | 21 => 83 | 22 => 84 | 23 => 85 | 24 => 86 | 25 => 87 | 26 => 88 | 27 => 89 | 46 => 100 | 47 => 95 | 48 => 96 | 49 => 101 | 50 => 102 | 57 => 105 | n => n, fun | 22 => 26 | 24 => 62 | 25 => 93 | 3 => 3 | 39 => 116 | 0 => 0 | 53 => 139 | 55 => 46 | 4 => 4 | 46 => 131 | 45 => 130 | 50 => 136 | 5 => 5 | 9 => 9 | 66 => 148 | 70 => 152 | 76 => 157 | 77 => 158 | n => n, fun | n => n⟩
theorem Try.sortET : Go.Proofs.SlLaysF0.n6 Try.prog Try.sortET_ren := {
 mixed := by kernel_rfl
 f6 := ⟨Try.f45.name, by decide, Try.func45.trans (congrArg some (by kernel_rfl))⟩
 f14 := ⟨Try.f60.name, by decide, Try.func60.trans (congrArg some (by kernel_rfl))⟩
 f15 := Try.func59.trans (congrArg some (by kernel_rfl))
 f20 := ⟨Try.f69.name, by decide, Try.func69.trans (congrArg some (by kernel_rfl))⟩
 f21 := ⟨Try.f83.name, by decide, Try.func83.trans (congrArg some (by kernel_rfl))⟩
 f22 := ⟨Try.f84.name, by decide, Try.func84.trans (congrArg some (by kernel_rfl))⟩
 f23 := ⟨Try.f85.name, by decide, Try.func85.trans (congrArg some (by kernel_rfl))⟩
 f24 := ⟨Try.f86.name, by decide, Try.func86.trans (congrArg some (by kernel_rfl))⟩
 f25 := ⟨Try.f87.name, by decide, Try.func87.trans (congrArg some (by kernel_rfl))⟩
 f26 := ⟨Try.f88.name, by decide, Try.func88.trans (congrArg some (by kernel_rfl))⟩
 f27 := ⟨Try.f89.name, by decide, Try.func89.trans (congrArg some (by kernel_rfl))⟩
 f28 := Try.func81.trans (congrArg some (by kernel_rfl))
 f29 := Try.func82.trans (congrArg some (by kernel_rfl))
 f46 := ⟨Try.f100.name, by decide, Try.func100.trans (congrArg some (by kernel_rfl))⟩
 f47 := Try.func95.trans (congrArg some (by kernel_rfl))
 f48 := Try.func96.trans (congrArg some (by kernel_rfl))
 f49 := ⟨Try.f101.name, by decide, Try.func101.trans (congrArg some (by kernel_rfl))⟩
 f50 := ⟨Try.f102.name, by decide, Try.func102.trans (congrArg some (by kernel_rfl))⟩
 f57 := ⟨Try.f105.name, by decide, Try.func105.trans (congrArg some (by kernel_rfl))⟩
 t0 := Try.underlying0
 a0 := Try.isAgg0
 z0 := Try.sizeOf0
 v0 := Try.zeroValue0
 t3 := Try.underlying3
 a3 := Try.isAgg3
 z3 := Try.sizeOf3
 v3 := Try.zeroValue3
 t4 := Try.underlying4
 a4 := Try.isAgg4
 z4 := Try.sizeOf4
 v4 := Try.zeroValue4
 t5 := Try.underlying5
 a5 := Try.isAgg5
 z5 := Try.sizeOf5
 v5 := Try.zeroValue5
 t9 := Try.underlying9
 a9 := Try.isAgg9
 z9 := Try.sizeOf9
 v9 := Try.zeroValue9
 t22 := Try.underlying26
 a22 := Try.isAgg26
 z22 := Try.sizeOf26
 v22 := Try.zeroValue26
 t25 := Try.underlying93
 a25 := Try.isAgg93
 z25 := Try.sizeOf93
 v25 := Try.zeroValue93
 t39 := Try.underlying116
 a39 := Try.isAgg116
 z39 := Try.sizeOf116
 v39 := Try.zeroValue116
 t45 := Try.underlying130
 a45 := Try.isAgg130
 z45 := Try.sizeOf130
 v45 := Try.zeroValue130
 t46 := Try.underlying131
 a46 := Try.isAgg131
 z46 := Try.sizeOf131
 v46 := Try.zeroValue131
 t50 := Try.underlying136
 a50 := Try.isAgg136
 z50 := Try.sizeOf136
 v50 := Try.zeroValue136
 t53 := Try.underlying139
 a53 := Try.isAgg139
 z53 := Try.sizeOf139
 v53 := Try.zeroValue139
 t55 := Try.underlying46
 a55 := Try.isAgg46
 z55 := Try.sizeOf46
 v55 := Try.zeroValue46
 t66 := Try.underlying148
 a66 := Try.isAgg148
 z66 := Try.sizeOf148
 v66 := Try.zeroValue148
 t70 := Try.underlying152
 a70 := Try.isAgg152
 z70 := Try.sizeOf152
 v70 := Try.zeroValue152
 t76 := Try.underlying157
 a76 := Try.isAgg157
 z76 := Try.sizeOf157
 v76 := Try.zeroValue157
 t77 := Try.underlying158
 a77 := Try.isAgg158
 z77 := Try.sizeOf158
 v77 := Try.zeroValue158 }
end Go.Proofs

namespace Go.Eng.S
open Go Go.Eng Go.Proofs
set_option linter.constructorNameAsVariable false
noncomputable section
attribute [local irreducible] bsel
theorem swoSS : Sort.SWO (ltOf fun x y : ET => cmpSS x.1 y.1) := by
 have e : ∀ x y : ET, ltOf (fun x y : ET => cmpSS x.1 y.1) x y = ssLt x.1 y.1 := fun x y => cmpSS_lt x.1 y.1
 refine ⟨fun x => ?_, fun x y z h1 h2 => ?_, fun x y z h1 h2 => ?_⟩
 ·rw [e]; exact ssLt_irrefl _
 ·rw [e] at *; exact ssLt_trans h1 h2
 ·rw [e] at *
  cases h : ssLt x.1 z.1 with
  | false => rfl
  | true =>
   by_cases h3 : ssLt y.1 x.1 = true
   ·rw [ssLt_trans h3 h] at h2; simp at h2
   ·have h3 : ssLt y.1 x.1 = false := by simpa using h3
    rw [ssLt_total h1 h3] at h
    rw [h] at h2; simp at h2
theorem Sort_ok {s : St} {x : AV} {l : List ET} (hx : So etE s x l) (h1 : ∀ y, y ∈ l → ones (etF y) = true) (hsz : l.length < 4611686018427387904) (hfr : Fr s) :
  CallsA P F.slices_SortFunc_sl_api_EdgeTally_api_EdgeTally [x, .func F.rollup_order [] []] s fun v s' => v = .tuple [] ∧ ∃ l', l'.Perm l ∧ l'.Pairwise (fun y z => 0 ≤ cmpSS z.1 y.1) ∧ So etE s' x l' ∧ Frw (blkOf x) s s' ∧ Fr s' := by
 rcases hx with ⟨rfl, h2⟩ | ⟨b, k, n, c, rfl, g1, g2, g3⟩
 ·have hl : l = [] := by
   cases l with
   | nil => rfl
   | cons a r => simp [etE, etF] at h2
  subst hl
  refine (CallsA.sort0 Try.sortET (x := .nilslice) rfl).mono ?_
  rintro v s' ⟨rfl, rfl⟩
  exact ⟨rfl, [], .refl _, by simp, .nil _ _, .refl _ _, hfr⟩
 ·have hn : l.length = n := by
   rw [etE.flat_len] at g1
   exact Nat.eq_of_mul_eq_mul_right (by decide) g1
  cases n with
  | zero =>
   have hl : l = [] := List.length_eq_zero_iff.1 hn
   subst hl
   refine (CallsA.sort0 Try.sortET (x := .slice b 0 0 (.var k 0)) rfl).mono ?_
   rintro v s' ⟨rfl, rfl⟩
   exact ⟨rfl, [], .refl _, by simp, .inr ⟨b, k, 0, c, rfl, g1, g2, g3⟩, .refl _ _, hfr⟩
  | succ n =>
   have hone : ∀ y : ET, y ∈ l → ones (etF y) = true := h1
   let E' : Enc { y : ET // ones (etF y) = true } := ⟨fun y => etF y.1, 9, by decide, fun _ => rfl⟩
   obtain ⟨l2, e1⟩ : ∃ l2 : List { y : ET // ones (etF y) = true }, l2.map Subtype.val = l := by
    refine ⟨l.attach.map fun y => ⟨y.1, h1 y.1 y.2⟩, ?_⟩
    rw [List.map_map]
    exact List.attach_map_subtype_val l
   have ef : ∀ l3 : List { y : ET // ones (etF y) = true }, l3.flatMap E'.f = (l3.map Subtype.val).flatMap etE.f := by
    intro l3
    rw [List.flatMap_map]
    rfl
   have hO : Sort.SWO (ltOf fun x y : { y : ET // ones (etF y) = true } => cmpSS x.1.1 y.1.1) := swo_el (fun y : { y : ET // ones (etF y) = true } => y.1) swoSS
   have hsort := CallsA.sortK hD Try.sortET E' (fun w => by exact run_agg hD ty.api_EdgeTally w) (fun w => by exact run_size hD ty.api_EdgeTally w) (fun y => y.2) (fun _ => True) (fun x y => cmpSS x.1.1 y.1.1) hO (g := F.rollup_order) (fi := fnI Try.f46) (by kernel_rfl) (caps := []) (s := s) (b := b) (o := 0) (n := n + 1) (cap := .var k 0) g2 rfl (l := l2) (by rw [← hn, ← e1]; simp) (Nat.le_of_eq (by simp [E', etE])) (by rw [ef, e1]; exact g3) (by omega) (by omega) (fun _ _ => trivial)
    (fun s0 _ x y _ _ => (order_ok x.1 y.1 x.2 y.2 s0).a)
   refine hsort.mono ?_
   rintro v s' ⟨rfl, l3, p1, p2, rfl⟩
   have hlen : (l3.map Subtype.val).length = n + 1 := by rw [List.length_map, p1.length_eq, ← hn, ← e1]; simp
   refine ⟨rfl, l3.map Subtype.val, by rw [← e1]; exact p1.map _, ?_, .inr ⟨b, k, n + 1, _, rfl, by rw [etE.flat_len, hlen], by simp only [PT.get_set_same]; rfl, ?_⟩, ⟨fun d o hd ho => ?_, Nat.le_refl _, rfl⟩, fun d hd => ?_⟩
   ·exact List.pairwise_map.2 p2
   ·rw [ef]
    refine getAll_of (by rw [etE.flat_len, hlen]) fun i hi => ?_
    have : (((l3.map Subtype.val).flatMap etE.f)).length = (n + 1) * etE.z := by rw [etE.flat_len, hlen]
    rw [PT.get_setAll, if_pos (by omega)]
    simp
   ·have : d ≠ b := by simpa [blkOf] using hd
    simp only [PT.get_set]; rw [if_neg this]; exact ho
   ·have hd : s.nx ≤ d := hd
    have : d ≠ b := by rintro rfl; rw [hfr d hd] at g2; simp at g2
    simp only [PT.get_set]; rw [if_neg this]; exact hfr d hd
end
end Go.Eng.S

namespace Go.Eng.S
open Go Go.Eng Go.Proofs
set_option linter.constructorNameAsVariable false
noncomputable section
attribute [local irreducible] bsel
theorem _root_.Go.Eng.IterS.sub {κ : Type} [DecidableEq κ] {f : κ → AV} {s : St} {it b : Nat} {m rem : List (κ × AV)} (h : IterS f s it b m rem) : ∀ p, p ∈ rem → p ∈ m := by
 obtain ⟨es, clock, seen, h1, rfl, h3, h4, h5, rfl⟩ := h
 intro p hp
 simp only [kv, List.mem_map, List.mem_filter] at hp ⊢
 obtain ⟨e, ⟨he, _⟩, rfl⟩ := hp
 exact ⟨e, he, rfl⟩
theorem _root_.Go.Eng.IterS.noCells {κ : Type} [DecidableEq κ] {f : κ → AV} {s : St} {it b : Nat} {m rem : List (κ × AV)} (h : IterS f s it b m rem) : NoCells s it := by
 obtain ⟨es, clock, seen, h1, h2, h3, h4, h5, h6⟩ := h
 intro c n tl g
 rw [h5] at g; simp at g
theorem _root_.Go.Eng.IterS.ne {κ : Type} [DecidableEq κ] {f : κ → AV} {s : St} {it b : Nat} {m rem : List (κ × AV)} (h : IterS f s it b m rem) {κ' : Type} [DecidableEq κ'] {f' : κ' → AV} {b' : Nat} {m' : List (κ' × AV)} (h' : MapS f' s b' m') : it ≠ b' := by
 rintro rfl
 obtain ⟨es, clock, seen, h1, h2, h3, h4, h5, h6⟩ := h
 obtain ⟨es', clock', g, _⟩ := h'
 rw [h5] at g; simp at g
theorem _root_.Go.Eng.IterS.src {κ : Type} [DecidableEq κ] {f : κ → AV} {s : St} {it b : Nat} {m rem : List (κ × AV)} (h : IterS f s it b m rem) (hn : (m.map (·.1)).Nodup) : MapS f s b m := by
 obtain ⟨es, clock, seen, h1, h2, h3, h4, h5, h6⟩ := h
 exact ⟨es, clock, h1, h2, hn, h4, h3⟩
theorem mget_of_mem {κ : Type} [DecidableEq κ] : ∀ {m : List (κ × AV)} {k : κ} {v : AV}, (m.map (·.1)).Nodup → (k, v) ∈ m → mget m k = some v
 | [], _, _, _, h => by simp at h
 | (a, w) :: r, k, v, hn, h => by
  simp only [List.map_cons, List.nodup_cons] at hn
  simp only [mget]
  rcases List.mem_cons.1 h with h0 | h0
  ·simp only [Prod.mk.injEq] at h0
   rw [if_pos h0.1, h0.2]
  ·have : k ≠ a := fun e => hn.1 (List.mem_map.2 ⟨(k, v), h0, e⟩)
   rw [if_neg this]
   exact mget_of_mem hn.2 h0
theorem so_beside {α : Type} {E : Enc α} {s s' : St} {x : AV} {l : List α} {M : List Nat} (h : So E s x l) (hf : Frw M s s') (hM : ∀ c, c ∈ M → NoCells s c ∨ c ∉ blkOf x) : So E s' x l := by
 refine h.beside hf fun c hc hx => ?_
 rcases hM c hc with hn | hn
 ·rcases h with ⟨rfl, _⟩ | ⟨b1, k1, n1, c1, rfl, _, q3, _⟩
  ·simp [blkOf] at hx
  ·have : c = b1 := by simpa [blkOf] using hx
   subst this
   exact hn _ _ _ q3
 ·exact hn hx
theorem so_there {α : Type} {E : Enc α} {s : St} {x : AV} {l : List α} (h : So E s x l) : ∀ c, c ∈ blkOf x → s.h.get c ≠ none := by
 rcases h with ⟨rfl, _⟩ | ⟨b1, k1, n1, c1, rfl, _, q3, _⟩
 ·simp [blkOf]
 ·intro c hc
  have : c = b1 := by simpa [blkOf] using hc
  rw [this, q3]; simp
def Apart (x y : AV) : Prop := ∀ c, c ∈ blkOf x → c ∉ blkOf y
theorem Apart.symm {x y : AV} (h : Apart x y) : Apart y x := fun c h1 h2 => h c h2 h1
structure AllS (s0 s : St) (b : Nat) (N : List (Edge × AV)) (S : Edge → GT) : Prop where
 map : MapS edgeF s b N
 some : ∀ e v, mget N e = Option.some v → ∃ z, v = (S e).1.V z ∧ SoN barE s z (S e).1.l ∧ ∀ c, c ∈ blkOf z → s0.h.get c = Option.none
 none : ∀ e, mget N e = Option.none ↔ (S e).1 = .zero
 apart : ∀ e e' z z', e ≠ e' → mget N e = Option.some ((S e).1.V z) → mget N e' = Option.some ((S e').1.V z') → Apart z z'
theorem V_inj {t : Tal} {x y : AV} (h : t.V x = t.V y) : x = y := by simpa [Tal.V] using h
theorem AllS.fwd {s0 s s' : St} {b : Nat} {N : List (Edge × AV)} {S : Edge → GT} {X : List Nat} (h : AllS s0 s b N S) (hf : Frw X s s') (hb : b ∉ X) (hX : ∀ c, c ∈ X → NoCells s c) : AllS s0 s' b N S where
 map := h.map.fwd hf hb
 some := fun e v hv => let ⟨z, h1, h2, h3⟩ := h.some e v hv; ⟨z, h1, ⟨so_beside h2.1 hf fun c hc => .inl (hX c hc), h2.2⟩, h3⟩
 none := h.none
 apart := h.apart
theorem AllS.ext {s0 s s' : St} {b : Nat} {N : List (Edge × AV)} {S : Edge → GT} (h : AllS s0 s b N S) (hf : Frw [] s s') : AllS s0 s' b N S := h.fwd hf (by simp) (by simp)
theorem AllS.look {s0 s : St} {b : Nat} {N : List (Edge × AV)} {S : Edge → GT} (h : AllS s0 s b N S) (e : Edge) : ∃ z, lookupA D s T.rollup_edges (.map b) (edgeF e) false = Option.some ((S e).1.V z) ∧ Sl barE s z (S e).1.l := by
 have hl := (MapS.lookup KE h.map ty.rollup_edges rfl ty.api_Tally rfl e).1
 cases hv : mget N e with
 | none =>
  rw [hv] at hl
  refine ⟨.nilslice, ?_, ?_⟩
  ·rw [(h.none e).1 hv]; exact hl
  ·rw [(h.none e).1 hv]; exact .nil _ _
 | some v =>
  rw [hv] at hl
  obtain ⟨z, rfl, h2, _⟩ := h.some e v hv
  exact ⟨z, hl, h2.1.sl⟩
theorem AllS.set {s0 s s' : St} {b : Nat} {N : List (Edge × AV)} {S S' : Edge → GT} (h : AllS s0 s b N S) {e : Edge} {z : AV} (hw : Frw [b] s s') (hm : MapS edgeF s' b (mset N e ((S' e).1.V z))) (hz : SoN barE s z (S' e).1.l) (hd : ∀ e' z', mget N e' = Option.some ((S e').1.V z') → e' ≠ e → Apart z' z) (hg : ∀ c, c ∈ blkOf z → s0.h.get c = Option.none) (hne : (S' e).1 ≠ .zero) (hoth : ∀ e', e' ≠ e → S' e' = S e') : AllS s0 s' b (mset N e ((S' e).1.V z)) S' where
 map := hm
 some := fun e' v hv => by
  have hb : ∀ c, c ∈ [b] → NoCells s c := fun c hc => by
   have : c = b := by simpa using hc
   rw [this]; exact h.map.noCells
  rw [mget_mset] at hv
  split at hv
  ·rename_i ee
   simp only [Option.some.injEq] at hv
   rw [ee]
   exact ⟨z, hv.symm, ⟨so_beside hz.1 hw fun c hc => .inl (hb c hc), hz.2⟩, hg⟩
  ·rename_i ee
   obtain ⟨z', g1, g2, g3⟩ := h.some e' v hv
   rw [hoth e' ee]
   exact ⟨z', g1, ⟨so_beside g2.1 hw fun c hc => .inl (hb c hc), g2.2⟩, g3⟩
 apart := fun e1 e2 z1 z2 hne h1 h2 => by
  rw [mget_mset] at h1 h2
  by_cases c1 : e1 = e
  ·by_cases c2 : e2 = e
   ·exact absurd (c1.trans c2.symm) hne
   ·rw [if_pos c1] at h1
    rw [if_neg c2, hoth e2 c2] at h2
    rw [c1] at h1
    simp only [Option.some.injEq] at h1
    rw [← V_inj h1]
    exact (hd e2 z2 h2 c2).symm
  ·rw [if_neg c1, hoth e1 c1] at h1
   by_cases c2 : e2 = e
   ·rw [if_pos c2, c2] at h2
    simp only [Option.some.injEq] at h2
    rw [← V_inj h2]
    exact hd e1 z1 h1 c1
   ·rw [if_neg c2, hoth e2 c2] at h2
    exact h.apart e1 e2 z1 z2 hne h1 h2
 none := fun e' => by
  rw [mget_mset]
  split
  ·rename_i ee
   rw [ee]
   simp [hne]
  ·rename_i ee
   rw [hoth e' ee]; exact h.none e'
theorem AllS.len {s0 s : St} {b : Nat} {N : List (Edge × AV)} {S : Edge → GT} (h : AllS s0 s b N S) {E0 : List Edge} (hE : ∀ e, (S e).1 ≠ .zero → e ∈ E0) : N.length ≤ E0.length := by
 have := nodup_length_le (a := N.map (·.1)) (b := E0) h.map.nodup fun e he => hE e fun h0 => by
  have := (h.none e).2 h0
  rw [mget_none] at this
  exact this he
 simpa using this
structure EtS (s0 s : St) (x : AV) (L : List ET) : Prop where
 so : So etE s x L
 bars : ∀ y, y ∈ L → Sl barE s y.2.2 y.2.1.l ∧ ∀ c, c ∈ blkOf y.2.2 → s0.h.get c = none
 new : ∀ c, c ∈ blkOf x → s0.h.get c = none
structure EtO (s0 s : St) (x : AV) (L : List ET) : Prop where
 et : EtS s0 s x L
 bso : ∀ y, y ∈ L → SoN barE s y.2.2 y.2.1.l
 isnil : L = [] → x = .nilslice
 apart : L.Pairwise fun y y' => Apart y.2.2 y'.2.2
 sep : ∀ y, y ∈ L → Apart y.2.2 x
theorem etF_ones {s : St} {y : ET} (h : Sl barE s y.2.2 y.2.1.l) : ones (etF y) = true := by
 have := h.onesx []
 simpa [etF, ones] using this
def etP (L : List ET) : List (Edge × Tal) := L.map fun y => (y.1, y.2.1)
def inR (a b h : Int) : Bool := decide (a ≤ h) && decide (h < b)
def accS (G : RollF) (hG : RollG G) (a b : Int) (vis : List Int) (e : Edge) : GT := gsum ((vis.filter (inR a b)).map fun h => gF G hG h e)
theorem accS_snoc {G : RollF} {hG : RollG G} {a b : Int} {vis : List Int} {h : Int} (e : Edge) : accS G hG a b (vis ++ [h]) e = if inR a b h = true then (accS G hG a b vis e).plus (gF G hG h e) else accS G hG a b vis e := by
 unfold accS
 rw [List.filter_append, List.map_append, gsum_append]
 cases hh : inR a b h with
 | true => simp [hh, gsum, GT.plus_zero]
 | false => simp [hh, gsum, GT.plus_zero]
theorem accS_ne {G : RollF} {hG : RollG G} {a b : Int} {vis : List Int} {e : Edge} (h : (accS G hG a b vis e).1 ≠ .zero) : ∃ h, G h e ≠ .zero := by
 classical
 refine Classical.byContradiction fun hn => h ?_
 have : accS G hG a b vis e = .zero := gsum_zero fun x hx => by
  obtain ⟨h', _, rfl⟩ := List.mem_map.1 hx
  refine Subtype.ext (Classical.byContradiction fun h0 => hn ⟨h', h0⟩)
 rw [this]; rfl
end
end Go.Eng.S

namespace Go.Eng.S
open Go Go.Eng Go.Proofs
set_option linter.constructorNameAsVariable false
noncomputable section
attribute [local irreducible] bsel
open Classical in
def inS (base : Edge → GT) (g : Edge → GT) (proc : List Edge) (e : Edge) : GT := if e ∈ proc then (base e).plus (g e) else base e
theorem told_of {S : Edge → GT} {N : List (Edge × AV)} (hN : (N.map (·.1)).Nodup) (hS : ∀ e, mget N e = none ↔ (S e).1 = .zero) {L : List ET} (hk : (L.map (·.1)).Perm (N.map (·.1))) (hv : ∀ y, y ∈ L → y.2.1 = (S y.1).1) (hs : L.Pairwise fun y z => 0 ≤ cmpSS z.1 y.1) : ToldL S (etP L) where
 asc := by
  have hn : (L.map (·.1)).Nodup := hk.nodup_iff.2 hN
  have hn' : L.Pairwise fun y z => y.1 ≠ z.1 := List.pairwise_map.1 hn
  refine List.pairwise_map.2 ((hs.and hn').imp fun {y z} ⟨h1, h2⟩ => ?_)
  have h3 : ssLt z.1 y.1 = false := by rw [← cmpSS_lt]; simpa using h1
  cases h : ssLt y.1 z.1 with
  | true => rfl
  | false => exact absurd (ssLt_total h h3) h2
 mem := fun e t => by
  simp only [etP, List.mem_map, Prod.mk.injEq]
  constructor
  ·rintro ⟨y, hy, rfl, rfl⟩
   refine ⟨hv y hy, ?_⟩
   rw [hv y hy]
   intro h0
   have := (hS y.1).2 h0
   rw [mget_none] at this
   exact this ((hk.mem_iff).1 (List.mem_map.2 ⟨y, hy, rfl⟩))
  ·rintro ⟨rfl, h0⟩
   have : ¬ mget N e = none := fun h => h0 ((hS e).1 h)
   rw [mget_none, Classical.not_not] at this
   obtain ⟨y, hy, rfl⟩ := List.mem_map.1 (hk.mem_iff.2 this)
   exact ⟨y, hy, rfl, hv y hy⟩
set_option maxRecDepth 4000 in
set_option maxHeartbeats 1000000 in
theorem sum_ok {s : St} {r : Nat} {fan : Int} {G : RollF} {fp : List Nat} (hR : Roll s r fan G fp) {a b : Int} {E0 : List Edge} (hE : ∀ h e, G h e ≠ .zero → e ∈ E0) (hb : (E0.length + 1 + (E0.length + 1) / 4 + 600) * 104 ≤ pow48) :
  CallsA P F.p_rollup_Rollup_sum [.ptr r 0, .int .i64 a, .int .i64 b] s fun v s' => (∃ L, EtO s s' v L ∧ ToldL (sumH G hR.good a b) (etP L)) ∧ Frw [] s s' ∧ Fr s' := by
 have hG := hR.good
 obtain ⟨m, M, h⟩ := hR
 refine CallsA.fr fun hfr => vc.p_rollup_Rollup_sum_ok ?_
 intro m1 s2 h2
 have hR2 := h.fwd h2.fwd (by simp)
 obtain ⟨it, s7, r1, r2, r3, r4, r5, r6⟩ := hR2.map.range ty.map_int64_rollup_edges rfl h2.fr
 have hgone1 : s.h.get m1 = none := h2.gone
 have hnd : (M.map (·.1)).Nodup := h.map.nodup
 refine ptrK_of ⟨_, hR2.own.ld1 1 rfl, it, s7, r1, fun s10 m11 => ∃ vis rem N, m11 = rem.length ∧ IterS hourF s10 it m M rem ∧ (vis ++ rem.map (·.1)).Perm (M.map (·.1)) ∧ AllS s s10 m1 N (accS G hG a b vis) ∧ Frw [] s s10 ∧ Fr s10, ⟨M.length, [], M, [], rfl, r2, by simp, ⟨(MapS.new h2).ext r3, fun e v hv => by simp [mget] at hv, fun e => by simp [mget, accS, gsum, GT.zero], fun e e' z z' _ h => by simp [mget] at h⟩, h2.fwd.trans r3, r4⟩, ?_⟩
 rintro s10 m11 ⟨vis, rem, N, rfl, hit, hperm, hall, hfw, hfr10⟩
 obtain ⟨l, n1, n2⟩ := hit.entry
 refine ⟨l, n1, fun x13 s14 hm => ?_⟩
 rcases n2 x13 s14 hm with ⟨rfl, rfl, rfl⟩ | ⟨ra, hh, x, rc, rfl, rfl, hit', w1, w2, w3, w4, hent⟩
 ·-- all has been put together
  refine .inl ⟨rfl, ?_⟩
  obtain ⟨it3, s16, t1, t2, t3, t4, t5, t6⟩ := hall.map.range ty.rollup_edges rfl hfr10
  have hS : ∀ e, accS G hG a b vis e = sumH G hG a b e := by
   intro e
   have hp : vis.Perm (M.map (·.1)) := by simpa using hperm
   refine sumH_of G hG ((hp.nodup_iff.2 hnd).filter _) (fun x e hx => ?_) e
   simp only [List.mem_filter, inR, Bool.and_eq_true, decide_eq_true_eq]
   refine ⟨fun hx => hx.2, fun hx' => ⟨hp.mem_iff.2 ?_, hx'⟩⟩
   refine Classical.byContradiction fun hn => hx ?_
   exact h.none x (mget_none.2 hn) e
  have hlen : N.length ≤ E0.length := hall.len fun e he => by
   obtain ⟨h', hh'⟩ := accS_ne he
   exact hE h' e hh'
  have hndN := hall.map.nodup
  refine ⟨it3, s16, t1, fun x19 s20 m21 => ∃ rem3 L, m21 = rem3.length ∧ IterS edgeF s20 it3 m1 N rem3 ∧ SoN etE s20 x19 L ∧ (L.map (·.1) ++ rem3.map (·.1)).Perm (N.map (·.1)) ∧ (∀ y, y ∈ L → y.2.1 = (accS G hG a b vis y.1).1 ∧ SoN barE s14 y.2.2 y.2.1.l ∧ (∀ c, c ∈ blkOf y.2.2 → s.h.get c = none) ∧ mget N y.1 = some ((accS G hG a b vis y.1).1.V y.2.2)) ∧ Frw [] s14 s20 ∧ Fr s20 ∧ ∀ c, c ∈ blkOf x19 → s14.h.get c = none, ⟨N.length, N, [], rfl, t2, ⟨.nil _ _, fun _ => rfl⟩, by simp, by simp, t3, t4, by simp [blkOf]⟩, ?_⟩
  rintro x19 s20 m21 ⟨rem3, L, rfl, hit3, ⟨hso, hnil⟩, hperm3, hL, hfw20, hfr20, hnew⟩
  obtain ⟨l2, n3, n4⟩ := hit3.entry
  refine ⟨l2, n3, fun x23 s24 hm2 => ?_⟩
  rcases n4 x23 s24 hm2 with ⟨rfl, rfl, rfl⟩ | ⟨ra3, e, v, rc3, rfl, rfl, hit3', y1, y2, y3, y4, hent3⟩
  ·refine .inl ⟨rfl, ?_⟩
   have hLlen : L.length ≤ N.length := by
    have := hperm3.length_eq
    simp at this
    omega
   refine (Sort_ok hso (fun y hy => etF_ones (hL y hy).2.1.1.sl) (by unfold pow48 at hb; omega) hfr20).mono ?_
   rintro v s26 ⟨rfl, L', p1, p2, p3, p4, p5⟩
   have f26 : Frw [] s14 s26 := hfw20.step p4 hnew
   refine ⟨rfl, ⟨L', ⟨⟨p3, fun y hy => ?_, fun c hc => hfw.none (hnew c hc) (by simp)⟩, fun y hy => ?_, fun h => hnil (by rw [h] at p1; exact p1.symm.eq_nil), ?_, fun y hy c hc hx => ?_⟩, ?_⟩, hfw.trans f26, p5⟩
   ·obtain ⟨_, g2, g3, _⟩ := hL y (p1.mem_iff.1 hy)
    exact ⟨g2.1.sl.ext f26, g3⟩
   ·exact ⟨(hL y (p1.mem_iff.1 hy)).2.1.1.ext f26, (hL y (p1.mem_iff.1 hy)).2.1.2⟩
   ·have hk : (L'.map (·.1)).Perm (N.map (·.1)) := (p1.map _).trans (by simpa using hperm3)
    have hnd : L'.Pairwise fun y z => y.1 ≠ z.1 := List.pairwise_map.1 (hk.nodup_iff.2 hndN)
    refine hnd.imp_of_mem fun {y y'} hy hy' hne => ?_
    exact hall.apart y.1 y'.1 _ _ hne (hL y (p1.mem_iff.1 hy)).2.2.2 (hL y' (p1.mem_iff.1 hy')).2.2.2
   ·exact so_there (hL y (p1.mem_iff.1 hy)).2.1.1 c hc (hnew c hx)
   ·have hk : (L'.map (·.1)).Perm (N.map (·.1)) := (p1.map _).trans (by simpa using hperm3)
    refine told_of hndN (fun e => ?_) hk (fun y hy => ?_) p2
    ·rw [← hS e]; exact hall.none e
    ·rw [← hS y.1]; exact (hL y (p1.mem_iff.1 hy)).1
  ·-- one more
   obtain ⟨e1, e2⟩ := e
   have hmem : ((e1, e2), v) ∈ N := hit3.sub _ (by simp)
   have hmg := mget_of_mem hndN hmem
   obtain ⟨z, rfl, hzo, hzg⟩ := hall.some (e1, e2) v hmg
   generalize ht : (accS G hG a b vis (e1, e2)).1 = t at hzo hent3 hmg ⊢
   have hz := hzo.1.sl
   refine .inr ⟨_, _, _, _, _, _, _, _, z, rfl, _, _, _, _, _, _, _, _, z, hent3, ?_⟩
   intro m45 s46 h46 m47 s48 h48
   have hiter : s20.h.get it3 ≠ none := by
    obtain ⟨es, ck, sn, _, _, _, _, g, _⟩ := hit3
    rw [g]; simp
   have hi3 : ∀ c, c ∈ [it3] → s14.h.get c = none := fun c hc => by
    have : c = it3 := by simpa using hc
    rw [this]; exact t5
   have hfr24 : Fr s24 := hfr20.wr hiter y2 y4
   have f24 : Frw [] s14 s24 := hfw20.step y1 hi3
   obtain ⟨s49, w5, o45, w6, w7, w8, w9⟩ := (h46.own.ext h48.fwd).wrAll [.str e1, .str e2] rfl rfl
   have g49 : Frw [] s24 s49 := (h46.fwd.trans h48.fwd).step w6 (by simpa using h46.gone)
   have hne : m47 ≠ m45 := (h48.ne h46.own.there).symm
   have o47 := h48.own.fwd w6 (by simpa using hne)
   obtain ⟨s50, w10, o47', w11, w12, w13, w14⟩ := o47.wrAll (t.C z) (hz.onesx []) rfl
   have g50 : Frw [] s24 s50 := g49.step w11 (by
    intro c hc
    have : c = m47 := by simpa using hc
    rw [this]; exact h46.fwd.none h48.gone (by simp))
   have o45' := o45.fwd w11 (by simpa using hne.symm)
   refine ⟨s49, w5, s50, w10, _, _, o45'.all rfl, _, _, _, _, _, _, _, o47'.all rfl, ?_⟩
   have hfr50 : Fr s50 := (h48.fr.wr (h46.own.ext h48.fwd).there w7 w9).wr o47.there w12 w14
   intro m60 s61 h61
   have g61 : Frw [] s24 s61 := g50.trans h61.fwd
   have hso61 : So etE s61 x19 L := by
    rcases hso with h | ⟨b1, k1, n1, c1, q1, q2, q3, q4⟩
    ·exact .inl h
    ·refine .inr ⟨b1, k1, n1, c1, q1, q2, g61.1 _ _ (by simp) ?_, q4⟩
     refine y1.1 _ _ ?_ q3
     simp only [List.mem_singleton]
     rintro rfl
     exact hit3.noCells _ _ _ q3
   have hLlen : L.length + 1 ≤ E0.length := by
    have := hperm3.length_eq
    simp at this
    omega
   obtain ⟨x62, s63, q1, q2, q3, q4, q5, q6⟩ := So.append' (a := (((e1, e2), t, z) : ET)) hso61 ty.sl_api_EdgeTally rfl ty.api_EdgeTally rfl rfl rfl (etF_ones (y := ((e1, e2), t, z)) hz) h61.own.rd rfl (Nat.le_trans (Nat.mul_le_mul_right 104 (by omega)) hb) (by unfold pow48 at hb ⊢; omega) h61.fr
   have f61 : Frw [] s14 s61 := f24.trans g61
   have f63 : Frw [] s14 s63 := f61.step q3 hnew
   have hx3 : ∀ c, c ∈ blkOf x19 → c ≠ it3 ∧ c ≠ m1 := by
    intro c hc
    rcases hso with ⟨rfl, _⟩ | ⟨b1, k1, n1, c1, rfl, g2, g3, g4⟩
    ·simp [blkOf] at hc
    ·have : c = b1 := by simpa [blkOf] using hc
     rw [this]
     refine ⟨?_, ?_⟩
     ·rintro rfl; exact hit3.noCells _ _ _ g3
     ·rintro rfl; exact (hit3.src hndN).noCells _ _ _ g3
   refine ⟨x62, s63, q1, (ra3 ++ rc3).length, by simp, ra3 ++ rc3, L ++ [((e1, e2), t, z)], rfl, (hit3'.ext g61).fwd q3 (fun hc => (hx3 _ hc).2 rfl) (fun hc => (hx3 _ hc).1 rfl), ⟨q2, fun h => by simp at h⟩, ?_, fun y hy => ?_, f63, q5, ?_⟩
   ·refine List.Perm.trans ?_ hperm3
    simp only [List.map_append, List.map_cons, List.map_nil, List.append_assoc]
    refine List.Perm.append_left _ ?_
    simpa using List.perm_middle.symm
   ·rcases List.mem_append.1 hy with hy | hy
    ·exact hL y hy
    ·have : y = ((e1, e2), t, z) := by simpa using hy
     rw [this]
     exact ⟨ht.symm, hzo, hzg, by rw [ht]; exact hmg⟩
   ·rw [q4]
    intro c hc
    have : c = s61.nx := by simpa using hc
    rw [this]
    refine f61.none (h61.fr _ (Nat.le_refl _)) (by simp)
 ·-- an hour
  have hits : s.h.get it = none := h2.fwd.none r5 (by simp)
  have hito : s10.h.get it ≠ none := by
   obtain ⟨es, ck, sn, _, _, _, _, g, _⟩ := hit
   rw [g]; simp
  have f14 : Frw [] s s14 := hfw.step w1 (fun c hc => by
   have : c = it := by simpa using hc
   rw [this]; exact hits)
  have hfr14 : Fr s14 := hfr10.wr hito w2 w4
  have hall14 := hall.fwd w1 (by simpa using (hit.ne hall.map).symm) (fun c hc => by
   have : c = it := by simpa using hc
   rw [this]; exact hit.noCells)
  have hperm' : ((vis ++ [hh]) ++ (ra ++ rc).map (·.1)).Perm (M.map (·.1)) := by
   refine List.Perm.trans ?_ hperm
   simp only [List.map_append, List.map_cons, List.append_assoc]
   refine List.Perm.append_left _ ?_
   simpa using List.perm_middle.symm
  have skip : inR a b hh = false → ∃ m', m' < (ra ++ (hh, x) :: rc).length ∧ ∃ vis rem N, m' = rem.length ∧ IterS hourF s14 it m M rem ∧ (vis ++ rem.map (·.1)).Perm (M.map (·.1)) ∧ AllS s s14 m1 N (accS G hG a b vis) ∧ Frw [] s s14 ∧ Fr s14 := by
   intro hno
   refine ⟨(ra ++ rc).length, by simp, vis ++ [hh], ra ++ rc, N, rfl, hit', hperm', ?_, f14, hfr14⟩
   have : accS G hG a b (vis ++ [hh]) = accS G hG a b vis := funext fun e => by rw [accS_snoc, hno]; simp
   rw [this]; exact hall14
  refine .inr ⟨hh, x, rfl, hh, x, hent, bsel_of (fun c => ?_) fun c => bsel_of (fun c' => ?_) fun c' => ?_⟩
  ·exact skip (by simp at c; simp [inR]; omega)
  ·exact skip (by simp at c'; simp [inR]; omega)
  have hin : inR a b hh = true := by simp at c c'; simp [inR]; omega
  have hx : mget M hh = some x := mget_of_mem hnd (hit.sub _ (by simp))
  obtain ⟨bI, NI, rfl, hi, hbf, hbm⟩ := h.inner hh x hx
  have hi14 := hi.fwd (fp' := fp) f14 (by simp) (by simp) fun c hc => hc
  obtain ⟨it4, s72, t1, t2, t3, t4, t5, t6⟩ := hi14.map.range ty.rollup_edges rfl hfr14
  have hndI := hi.map.nodup
  refine ⟨it4, s72, t1, fun s75 m76 => ∃ proc rem4 N', m76 = rem4.length ∧ IterS edgeF s75 it4 bI NI rem4 ∧ (proc ++ rem4.map (·.1)).Perm (NI.map (·.1)) ∧ AllS s s75 m1 N' (inS (accS G hG a b vis) (gF G hG hh) proc) ∧ IterS hourF s75 it m M (ra ++ rc) ∧ Frw [] s s75 ∧ Fr s75, ⟨NI.length, [], NI, N, rfl, t2, by simp, ?_, hit'.ext t3, f14.trans t3, t4⟩, ?_⟩
  ·have : inS (accS G hG a b vis) (gF G hG hh) [] = accS G hG a b vis := funext fun e => by simp [inS]
   rw [this]; exact hall14.ext t3
  rintro s75 m76 ⟨proc, rem4, N', rfl, hit4, hperm4, hall4, hitm, hfw75, hfr75⟩
  obtain ⟨l4, n5, n6⟩ := hit4.entry
  refine ⟨l4, n5, fun x78 s79 hm4 => ?_⟩
  rcases n6 x78 s79 hm4 with ⟨rfl, rfl, rfl⟩ | ⟨ra4, e, v, rc4, rfl, rfl, hit4', y1, y2, y3, y4, hent4⟩
  ·-- the hour is done
   refine .inl ⟨rfl, (ra ++ rc).length, by simp, vis ++ [hh], ra ++ rc, N', rfl, hitm, hperm', ?_, hfw75, hfr75⟩
   have : accS G hG a b (vis ++ [hh]) = inS (accS G hG a b vis) (gF G hG hh) proc := funext fun e => by
    rw [accS_snoc, if_pos hin]
    unfold inS
    split
    ·rfl
    ·rename_i hno
     have hp : proc.Perm (NI.map (·.1)) := by simpa using hperm4
     have h0 : G hh e = .zero := hi.none e (mget_none.2 fun hc => hno (hp.mem_iff.2 hc))
     have : gF G hG hh e = .zero := Subtype.ext h0
     rw [this, GT.plus_zero]
   rw [this]; exact hall4
  ·-- one more edge of it
   obtain ⟨e1, e2⟩ := e
   have hmem : ((e1, e2), v) ∈ NI := hit4.sub _ (by simp)
   obtain ⟨z, rfl, hz0, hne0, _⟩ := hi.some (e1, e2) v (mget_of_mem hndI hmem)
   have hz : Sl barE s75 z (G hh (e1, e2)).l := (hz0.ext hfw75).sl
   have hnp : (e1, e2) ∉ proc := by
    have := hperm4.nodup_iff.2 hndI
    rw [List.nodup_append] at this
    intro hc
    exact this.2.2 _ hc (e1, e2) (by simp) rfl
   refine .inr ⟨_, _, _, _, _, _, _, _, z, rfl, _, _, _, _, _, _, _, _, z, hent4, ?_⟩
   intro m99 s100 h100 m101 s102 h102
   have hiter : s75.h.get it4 ≠ none := by
    obtain ⟨es, ck, sn, _, _, _, _, g, _⟩ := hit4
    rw [g]; simp
   have hi4 : ∀ c, c ∈ [it4] → NoCells s75 c := fun c hc => by
    have : c = it4 := by simpa using hc
    rw [this]; exact hit4.noCells
   have hfr79 : Fr s79 := hfr75.wr hiter y2 y4
   have f79 : Frw [] s s79 := hfw75.step y1 (fun c hc => by
    have : c = it4 := by simpa using hc
    rw [this]; exact f14.none t5 (by simp))
   have hz79 : Sl barE s79 z (G hh (e1, e2)).l := (hz0.ext f79).sl
   have hall79 := hall4.fwd y1 (by simpa using (hit4.ne hall4.map).symm) hi4
   obtain ⟨s103, w5, o99, w6, w7, w8, w9⟩ := (h100.own.ext h102.fwd).wrAll [.str e1, .str e2] rfl rfl
   have g103 : Frw [] s79 s103 := (h100.fwd.trans h102.fwd).step w6 (by simpa using h100.gone)
   have hne : m101 ≠ m99 := (h102.ne h100.own.there).symm
   have o101 := h102.own.fwd w6 (by simpa using hne)
   obtain ⟨s104, w10, o101', w11, w12, w13, w14⟩ := o101.wrAll ((G hh (e1, e2)).C z) (hz.onesx []) rfl
   have g104 : Frw [] s79 s104 := g103.step w11 (by
    intro c hc
    have : c = m101 := by simpa using hc
    rw [this]; exact h100.fwd.none h102.gone (by simp))
   have o99' := o99.fwd w11 (by simpa using hne.symm)
   refine ⟨s103, w5, s104, w10, ?_⟩
   intro s105 hB
   have g105 := g104.trans hB.fwd
   have hall105 := hall79.ext g105
   obtain ⟨z1, l1, hz1⟩ := hall105.look (e1, e2)
   have hbase : inS (accS G hG a b vis) (gF G hG hh) proc (e1, e2) = accS G hG a b vis (e1, e2) := by unfold inS; rw [if_neg hnp]
   have o99B := o99'.ext hB.fwd
   have o101B := o101'.ext hB.fwd
   refine ⟨_, _, o99B.all rfl, _, _, o99B.all rfl, _, _, _, _, _, _, z1, l1, _, _, _, _, _, _, _, o101B.all rfl, (Plus_okS hz1 (hz79.ext g105) (inS (accS G hG a b vis) (gF G hG hh) proc (e1, e2)).2.2 (hG.rng hh (e1, e2))).mono ?_⟩
   rintro v s125 ⟨⟨hv, g125⟩, hfr125⟩
   rw [if_pos ⟨(inS (accS G hG a b vis) (gF G hG hh) proc (e1, e2)).2.1, hG.ok hh (e1, e2)⟩] at hv
   obtain ⟨z2, rfl, hz2, hgo2⟩ := hv
   have hall125 := hall105.ext g125
   have hnew : inS (accS G hG a b vis) (gF G hG hh) (proc ++ [(e1, e2)]) (e1, e2) = (inS (accS G hG a b vis) (gF G hG hh) proc (e1, e2)).plus (gF G hG hh (e1, e2)) := by
    rw [hbase]; unfold inS; rw [if_pos (by simp)]
   have hoth : ∀ e', e' ≠ (e1, e2) → inS (accS G hG a b vis) (gF G hG hh) (proc ++ [(e1, e2)]) e' = inS (accS G hG a b vis) (gF G hG hh) proc e' := by
    intro e' he
    unfold inS
    by_cases hp : e' ∈ proc
    ·rw [if_pos (List.mem_append_left _ hp), if_pos hp]
    ·rw [if_neg (by simp [hp, he]), if_neg hp]
   have hval : (inS (accS G hG a b vis) (gF G hG hh) (proc ++ [(e1, e2)]) (e1, e2)).1 = (inS (accS G hG a b vis) (gF G hG hh) proc (e1, e2)).1.plus (G hh (e1, e2)) := by rw [hnew]; rfl
   obtain ⟨s134, x1, x2, x3⟩ := hall125.map.set KE ty.rollup_edges rfl (e1, e2) ((inS (accS G hG a b vis) (gF G hG hh) (proc ++ [(e1, e2)]) (e1, e2)).1.V z2)
   have hset := hall125.set (S' := inS (accS G hG a b vis) (gF G hG hh) (proc ++ [(e1, e2)])) (e := (e1, e2)) (z := z2) x3.1 x2 (by rw [hval]; exact hz2) (fun e' z' h1 h2 c hc hc2 => by
    obtain ⟨z'', g1, g2, _⟩ := hall105.some e' _ h1
    rw [V_inj g1] at hc
    exact so_there g2.1 c hc (hgo2 c hc2)) (fun c hc => ((f79.trans g105)).none (hgo2 c hc) (by simp)) (by
    rw [hval]
    intro h0
    exact hne0 (congrArg Subtype.val (GT.plus_eq_zero' (a := inS (accS G hG a b vis) (gF G hG hh) proc (e1, e2)) (b := gF G hG hh (e1, e2)) (Subtype.ext h0)))) hoth
   have hm1 : ∀ c, c ∈ [m1] → s.h.get c = none := fun c hc => by
    have : c = m1 := by simpa using hc
    rw [this]; exact hgone1
   have g125' := g105.trans g125
   rw [hval] at x1
   refine ⟨_, _, _, _, _, _, z2, 0, rfl, (o99B.ext g125).all rfl, s134, x1, (ra4 ++ rc4).length, by simp, proc ++ [(e1, e2)], ra4 ++ rc4, _, rfl, ?_, ?_, hset, ?_, (f79.trans g125').step x3.1 hm1, x3.fr hfr125 hall125.map.there⟩
   ·have hb1 : bI ≠ m1 := by
     rintro rfl
     exact hi.map.there hgone1
    exact (hit4'.ext g125').fwd x3.1 (by simpa using hb1) (by simpa using hit4.ne hall4.map)
   ·refine List.Perm.trans ?_ hperm4
    simp only [List.map_append, List.map_cons, List.append_assoc]
    refine List.Perm.append_left _ ?_
    simpa using List.perm_middle.symm
   ·have hmm : m ≠ m1 := by
     rintro rfl
     exact h.map.there hgone1
    have hitne : it ≠ it4 := by
     rintro rfl
     have : s14.h.get it ≠ none := by
      obtain ⟨es, ck, sn, _, _, _, _, g, _⟩ := hit'
      rw [g]; simp
     exact this t5
    have hmit4 : m ≠ it4 := by
     rintro rfl
     exact (h.map.ext f14).there t5
    exact ((hitm.fwd y1 (by simpa using hmit4) (by simpa using hitne)).ext g125').fwd x3.1 (by simpa using hmm) (by simpa using hit.ne hall.map)
end
end Go.Eng.S

namespace Go.Eng.S
open Go Go.Eng Go.Proofs
set_option linter.constructorNameAsVariable false
noncomputable section
attribute [local irreducible] bsel
def rngOk (a b : Int) : Bool := decide (0 ≤ a) && decide (a ≤ b) && decide (b ≤ 2097152)
theorem Range_ok {s : St} {r : Nat} {fan : Int} {G : RollF} {fp : List Nat} (hR : Roll s r fan G fp) {a b : Int} {E0 : List Edge} (hE : ∀ h e, G h e ≠ .zero → e ∈ E0) (hb : (E0.length + 1 + (E0.length + 1) / 4 + 600) * 104 ≤ pow48) :
  CallsA P F.p_rollup_Rollup_Range [.ptr r 0, .int .i64 a, .int .i64 b] s fun v s' => (if rngOk a b = true then ∃ x L, v = .tuple [x, .int .i64 0] ∧ EtO s s' x L ∧ ToldL (sumH G hR.good a b) (etP L) else v = .tuple [.nilslice, .int .i64 151]) ∧ Frw [] s s' ∧ Fr s' := by
 refine CallsA.fr fun hfr => vc.p_rollup_Rollup_Range_ok (bsel_of (fun c => ?_) fun c => bsel_of (fun c2 => ?_) fun c2 => bsel_of (fun c3 => ?_) fun c3 => ?_)
 ·simp at c
  exact ⟨by rw [if_neg (by simp [rngOk]; omega)], .refl _ _, hfr⟩
 ·simp at c c2
  exact ⟨by rw [if_neg (by simp [rngOk]; omega)], .refl _ _, hfr⟩
 ·simp at c c2 c3
  exact ⟨by rw [if_neg (by simp [rngOk]; omega)], .refl _ _, hfr⟩
 ·simp at c c2 c3
  refine (sum_ok hR (a := a) (b := b) hE hb).mono ?_
  rintro v s2 ⟨⟨L, h1, h2⟩, h3, h4⟩
  refine ⟨v, rfl, ?_⟩
  exact ⟨by rw [if_pos (by simp [rngOk]; omega)]; exact ⟨v, L, rfl, h1, h2⟩, h3, h4⟩
theorem ToldL.none {S : Edge → GT} (h : ∀ e, S e = .zero) : ToldL S [] where
 asc := by simp
 mem := fun e t => by simp [h e, GT.zero]
theorem EtS.nil (s0 s : St) : EtS s0 s .nilslice [] where
 so := .nil _ _
 bars := by simp
 new := by simp [blkOf]
theorem EtO.nil (s0 s : St) : EtO s0 s .nilslice [] where
 et := .nil _ _
 bso := by simp
 isnil := fun _ => rfl
 apart := .nil
 sep := by simp
end
end Go.Eng.S

namespace Go.Eng.S
open Go Go.Eng Go.Proofs
set_option linter.constructorNameAsVariable false
noncomputable section
attribute [local irreducible] bsel barsOf mergeB
def mg : List Bar → List Bar → List Bar
 | [], b => b
 | x :: a, [] => x :: a
 | x :: a, y :: b => if x.1 < y.1 then x :: mg a (y :: b) else if y.1 < x.1 then y :: mg (x :: a) b else (x.1, sat x.2 y.2) :: mg a b
termination_by a b => a.length + b.length
def RMI (l1 l2 : List Bar) (s : St) (x : AV) (n10 n11 : Int) (s12 : St) (m : Nat) : Prop :=
 ∃ (i j : Nat) (acc : List Bar), n10 = i ∧ n11 = j ∧ m = (l1.length - i) + (l2.length - j) ∧ i ≤ l1.length ∧ j ≤ l2.length ∧ acc.length ≤ i + j ∧ acc ++ mg (l1.drop i) (l2.drop j) = mg l1 l2 ∧ So barE s12 x acc ∧ (∀ c, c ∈ blkOf x → s.h.get c = none) ∧ Frw [] s s12 ∧ Fr s12
theorem RMI.next {l1 l2 : List Bar} {s s12 s' : St} {x : AV} {i j i' j' b : Nat} {acc : List Bar} {p : Bar} {n n' : Int} (hlen : l1.length ≤ 1920 ∧ l2.length ≤ 1920) (hacc : acc.length ≤ i + j) (hmg : acc ++ mg (l1.drop i) (l2.drop j) = mg l1 l2) (hso : So barE s12 x acc) (hnew : ∀ c, c ∈ blkOf x → s.h.get c = none) (f12 : Frw [] s s12)
  (hij : i ≤ i' ∧ j ≤ j' ∧ i' ≤ l1.length ∧ j' ≤ l2.length ∧ i + j < i' + j') (h : mg (l1.drop i) (l2.drop j) = p :: mg (l1.drop i') (l2.drop j')) (f : Frw [] s12 s') (hfr : Fr s') (ho : Own s' b [.int .i64 p.1, .int .u64 p.2]) (hn : n = i') (hn' : n' = j') :
  ∃ x' s24, appendX D s' T.sl_api_Bar T.sl_api_Bar x (.slice b 0 1 (.exact 1)) = some (x', s24) ∧ ∃ m, m < (l1.length - i) + (l2.length - j) ∧ RMI l1 l2 s x' n n' s24 m := by
 obtain ⟨x62, s63, q1, q2, q3, q4, q5, q6⟩ := So.append' (a := p) (hso.ext f) ty.sl_api_Bar rfl ty.api_Bar rfl rfl rfl rfl ho.rd rfl (show (acc.length + 1 + (acc.length + 1) / 4 + 600) * 16 ≤ pow48 by unfold pow48; omega) (by unfold pow48; omega) hfr
 refine ⟨x62, s63, q1, (l1.length - i') + (l2.length - j'), by omega, i', j', acc ++ [p], hn, hn', rfl, by omega, by omega, ?_, ?_, q2, fun c hc => ?_, (f12.trans f).step q3 hnew, q5⟩
 ·rw [List.length_append]; simp only [List.length_cons, List.length_nil]; omega
 ·rw [List.append_assoc, List.singleton_append, ← h, hmg]
 ·rw [q4] at hc
  have : c = s'.nx := by simpa using hc
  rw [this]
  exact (f12.trans f).none (hfr _ (Nat.le_refl _)) (by simp)
end
end Go.Eng.S

namespace Go.Eng.S
open Go Go.Eng Go.Proofs
set_option linter.constructorNameAsVariable false
noncomputable section
open Classical in
def toGT (t : Tal) : GT := if h : t.ok = true ∧ t.Rng then ⟨t, h⟩ else .zero
theorem toGT_val {t : Tal} (h1 : t.ok = true) (h2 : t.Rng) : (toGT t).1 = t := by
 unfold toGT; rw [dif_pos ⟨h1, h2⟩]
def addE (S : Edge → GT) (e : Edge) (t : GT) : Edge → GT := fun e' => if e' = e then (S e').plus t else S e'
def sumE (l : List (Edge × Tal)) (e : Edge) : GT := gsum ((l.filter fun y => decide (y.1 = e)).map fun y => toGT y.2)
theorem ToldL.of {S : Edge → GT} {L : List (Edge × Tal)} (asc : L.Pairwise fun x y => ssLt x.1 y.1 = true) (h1 : ∀ p, p ∈ L → p.2 = (S p.1).1 ∧ p.2 ≠ .zero) (h2 : ∀ e, (S e).1 ≠ .zero → ∃ p, p ∈ L ∧ p.1 = e) : ToldL S L where
 asc := asc
 mem := fun e t => by
  constructor
  ·intro h
   exact h1 (e, t) h
  ·rintro ⟨rfl, h⟩
   obtain ⟨p, hp, rfl⟩ := h2 e h
   have := (h1 p hp).1
   obtain ⟨p1, p2⟩ := p
   simp only at this
   rw [← this]; exact hp
theorem ToldL.at {S : Edge → GT} {L : List (Edge × Tal)} (h : ToldL S L) {p : Edge × Tal} (hp : p ∈ L) : p.2 = (S p.1).1 ∧ p.2 ≠ .zero := (h.mem p.1 p.2).1 hp
theorem ToldL.lt {S : Edge → GT} {L : List (Edge × Tal)} (h : ToldL S L) {i j : Nat} (hij : i < j) (hj : j < L.length) : ssLt (L[i]'(by omega)).1 L[j].1 = true := List.pairwise_iff_getElem.1 h.asc i j _ _ hij
theorem ToldL.inj {S : Edge → GT} {L : List (Edge × Tal)} (h : ToldL S L) {i j : Nat} (hi : i < L.length) (hj : j < L.length) (e : L[i].1 = L[j].1) : i = j := by
 rcases Nat.lt_trichotomy i j with c | c | c
 ·have := h.lt c hj; rw [e, ssLt_irrefl] at this; simp at this
 ·exact c
 ·have := h.lt c hi; rw [e, ssLt_irrefl] at this; simp at this
theorem ToldL.nodup {S : Edge → GT} {L : List (Edge × Tal)} (h : ToldL S L) : (L.map (·.1)).Nodup := by
 refine List.pairwise_map.2 (h.asc.imp fun {x y} hxy e => ?_)
 rw [e, ssLt_irrefl] at hxy; simp at hxy
theorem GT.plus_ne {a t : GT} (ht : t ≠ .zero) : a.plus t ≠ .zero := fun h => ht (GT.plus_eq_zero' h)
theorem GT.val_ne {a : GT} : a.1 ≠ .zero ↔ a ≠ .zero := ⟨fun h e => h (by rw [e]; rfl), fun h e => h (Subtype.ext e)⟩
theorem ToldL.set {S : Edge → GT} {L : List (Edge × Tal)} (h : ToldL S L) {k : Nat} (hk : k < L.length) {t : GT} (ht : t ≠ .zero) : ToldL (addE S L[k].1 t) (L.set k (L[k].1, L[k].2.plus t.1)) := by
 have key : ∀ i (hi : i < (L.set k (L[k].1, L[k].2.plus t.1)).length), (L.set k (L[k].1, L[k].2.plus t.1))[i].1 = (L[i]'(by simpa using hi)).1 := by
  intro i hi
  rw [List.getElem_set]
  split
  ·rename_i e; subst e; rfl
  ·rfl
 refine .of ?_ ?_ ?_
 ·rw [List.pairwise_iff_getElem]
  intro i j hi hj hij
  rw [key, key]
  exact h.lt hij (by simpa using hj)
 ·intro p hp
  obtain ⟨i, hi, rfl⟩ := List.mem_iff_getElem.1 hp
  rw [List.getElem_set]
  have hi' : i < L.length := by simpa using hi
  split
  ·rename_i e
   have h1 := h.at (List.getElem_mem hk)
   have : (addE S L[k].1 t L[k].1).1 = L[k].2.plus t.1 := by unfold addE; rw [if_pos rfl, h1.1]; rfl
   refine ⟨this.symm, ?_⟩
   show L[k].2.plus t.1 ≠ .zero
   rw [← this, GT.val_ne]
   unfold addE; rw [if_pos rfl]; exact GT.plus_ne ht
  ·rename_i e
   have h1 := h.at (List.getElem_mem hi')
   unfold addE
   rw [if_neg fun c => e (h.inj hi' hk c).symm]
   exact h1
 ·intro e he
  by_cases c : e = L[k].1
  ·exact ⟨(L[k].1, L[k].2.plus t.1), List.mem_iff_getElem.2 ⟨k, by simpa using hk, by simp⟩, c.symm⟩
  ·unfold addE at he
   rw [if_neg c] at he
   have hm := (h.mem e _).2 ⟨rfl, he⟩
   obtain ⟨i, hi, hp⟩ := List.mem_iff_getElem.1 hm
   have hik : k ≠ i := by rintro rfl; rw [hp] at c; exact c rfl
   exact ⟨L[i], List.mem_iff_getElem.2 ⟨i, by simpa using hi, by rw [List.getElem_set, if_neg hik]⟩, by rw [hp]⟩
end
end Go.Eng.S

namespace Go.Eng.S
open Go Go.Eng Go.Proofs
set_option linter.constructorNameAsVariable false
noncomputable section
attribute [local irreducible] bsel barsOf mergeB
theorem EdgeLess_pure (a b : Edge) (s : St) : CallsD P F.spoorref15_EdgeLess [edgeF a, edgeF b] s fun v s' => v = .bool (ssLt a b) ∧ s' = s := by
 refine CallsD.pure (fun s => (vc.spoorref15_EdgeLess_ok ?_).a) rfl s
 obtain ⟨a1, a2⟩ := a
 obtain ⟨b1, b2⟩ := b
 intro m1 s2 h2 m3 s4 h4
 have o1 := h2.own.ext h4.fwd
 have o3 := h4.own
 refine ⟨a1, o1.ld1 0 rfl, b1, o3.ld1 0 rfl, bsel_of (fun c => ⟨a1, o1.ld1 0 rfl, b1, o3.ld1 0 rfl, ?_⟩) fun c => ⟨a2, o1.ld1 1 rfl, b2, o3.ld1 1 rfl, ?_⟩⟩
 ·rw [sEq_eq] at c
  have : ¬ a1 = b1 := by simpa using c
  show AV.bool (sLt a1 b1) = _
  rw [ssLt, if_neg this]
 ·rw [sEq_eq] at c
  have : a1 = b1 := by simpa using c
  show AV.bool (sLt a2 b2) = _
  rw [ssLt, if_pos this]
theorem So.there {α : Type} {E : Enc α} {s : St} {x : AV} {l : List α} (h : So E s x l) : ∀ c, c ∈ blkOf x → s.h.get c ≠ none := by
 rcases h with ⟨rfl, _⟩ | ⟨b1, k1, n1, c1, rfl, _, q3, _⟩
 ·simp [blkOf]
 ·intro c hc
  have : c = b1 := by simpa [blkOf] using hc
  rw [this, q3]; simp
theorem Sl.there {α : Type} {E : Enc α} {s : St} {x : AV} {l : List α} (h : Sl E s x l) : ∀ c, c ∈ blkOf x → s.h.get c ≠ none := by
 rcases h with ⟨h, _⟩ | ⟨b1, o, n1, c1, rfl, _, q3⟩
 ·cases x <;> simp [slZero] at h <;> simp [blkOf]
 ·intro c hc
  have : c = b1 := by simpa [blkOf] using hc
  rw [this]; exact q3.there
theorem okB_len' {l : List Bar} (h : okB (-1) l = true) : l.length ≤ 1920 := by have := okB_len (by omega) h; omega
structure AccS (s0 s : St) (x : AV) (L : List ET) : Prop where
 et : EtS s0 s x L
 sep : ∀ y, y ∈ L → ∀ c, c ∈ blkOf y.2.2 → c ∉ blkOf x
theorem EtS.ext {s0 s s' : St} {x : AV} {L : List ET} (h : EtS s0 s x L) (hf : Frw [] s s') : EtS s0 s' x L where
 so := h.so.ext hf
 bars := fun y hy => ⟨(h.bars y hy).1.ext hf, (h.bars y hy).2⟩
 new := h.new
theorem AccS.nil (s0 s : St) : AccS s0 s .nilslice [] := ⟨.nil _ _, by simp⟩
theorem AccS.ext {s0 s s' : St} {x : AV} {L : List ET} (h : AccS s0 s x L) (hf : Frw [] s s') : AccS s0 s' x L := ⟨h.et.ext hf, h.sep⟩
end
end Go.Eng.S

namespace Go.Eng.S
open Go Go.Eng Go.Proofs
set_option linter.constructorNameAsVariable false
noncomputable section
attribute [local irreducible] bsel barsOf mergeB
def lsE : Enc (AV × List ET) := ⟨fun p => [p.1], 1, by decide, fun _ => rfl⟩
theorem etP_append (a b : List ET) : etP (a ++ b) = etP a ++ etP b := by simp [etP]
theorem etP_len (a : List ET) : (etP a).length = a.length := by simp [etP]
theorem wrap_succ {k : Nat} (h : k < 9223372036854775807) : IntKind.wrap .i64 ((k : Int) + 1) = ((k + 1 : Nat) : Int) := by rw [wrap_i64 (by omega) (by omega)]; rfl
structure FineE (s : St) (y : ET) : Prop where
 bar : Sl barE s y.2.2 y.2.1.l
 ok : y.2.1.ok = true
 rng : y.2.1.Rng
 ne : y.2.1 ≠ .zero
theorem SameTally_ok {s : St} {t : Tal} {x y : AV} (hx : Sl barE s x t.l) (hy : Sl barE s y t.l) (hn : t.l.length < 4611686018427387904) :
  CallsD P F.spoorref15_SameTally [t.V x, t.V y] s fun v s' => (v = .bool true ∧ Frw [] s s') ∧ Fr s' := by
 refine CallsD.of fun hfr => vc.spoorref15_SameTally_ok ?_
 intro m1 s2 h2 m3 s4 h4
 have f4 := h2.fwd.trans h4.fwd
 have o1 := h2.own.ext h4.fwd
 have o3 := h4.own
 refine ⟨_, _, o1.ldN 0 2 (by simp), _, _, o3.ldN 0 2 (by simp), bsel_of (fun c => by simp at c) fun _ => ⟨_, _, o1.ldN 2 2 (by simp), _, _, o3.ldN 2 2 (by simp), bsel_of (fun c => by simp at c) fun _ => ⟨_, _, o1.ldN 4 2 (by simp), _, _, o3.ldN 4 2 (by simp), bsel_of (fun c => by simp at c) fun _ => ⟨x, o1.ld1 6 rfl, (hx.ext f4).slen ⟨y, o3.ld1 6 rfl, (hy.ext f4).slen (bsel_of (fun c => by simp at c) fun _ => ?_)⟩⟩⟩⟩⟩
 refine ⟨fun n23 s24 m => ∃ k : Nat, n23 = k ∧ m = t.l.length - k ∧ k ≤ t.l.length ∧ Frw [] s4 s24 ∧ Fr s24, ⟨_, 0, rfl, rfl, by omega, .refl _ _, h4.fr⟩, ?_⟩
 rintro _ s24 _ ⟨k, rfl, rfl, hk, f24, hfr24⟩
 refine ⟨x, (o1.ext f24).ld1 6 rfl, (hx.ext (f4.trans f24)).slen (bsel_of (fun c => ?_) fun c => ⟨rfl, f4.trans f24⟩)⟩
 have c : k < t.l.length := by simpa using c
 intro s28 hB
 have f28 := f24.trans hB.fwd
 refine ⟨x, (o1.ext f28).ld1 6 rfl, (hx.ext (f4.trans f28)).ixs rfl rfl c fun b o hR => ⟨_, _, hR.all rfl, y, (o3.ext f28).ld1 6 rfl, (hy.ext (f4.trans f28)).ixs rfl rfl c fun b o hR => ⟨_, _, hR.all rfl, bsel_of (fun c => by simp at c) fun _ => ?_⟩⟩⟩
 exact ⟨t.l.length - (k + 1), by omega, k + 1, wrap_succ (by omega), rfl, by omega, f28, hB.fr⟩
end
end Go.Eng.S

namespace Go.Eng.S
open Go Go.Eng Go.Proofs
set_option linter.constructorNameAsVariable false
noncomputable section
attribute [local irreducible] bsel barsOf mergeB
def idxN (n : Nat) : Nat := if n < 64 then n else 64 + 32 * (n.log2 - 6) + n / 2 ^ (n.log2 - 5) - 32
theorem idxN_lt {n : Nat} (h : n < 18446744073709551616) : idxN n < 1920 := by
 unfold idxN
 split
 ·omega
 ·rename_i hn
  have h0 : n ≠ 0 := by omega
  have h1 : 2 ^ n.log2 ≤ n := Nat.log2_self_le h0
  have h2 : n < 2 ^ (n.log2 + 1) := Nat.lt_log2_self
  generalize n.log2 = k at h1 h2
  have hk : k < 64 := by
   refine Classical.byContradiction fun hc => ?_
   have : 2 ^ 64 ≤ 2 ^ k := Nat.pow_le_pow_right (by omega) (by omega)
   omega
  have hk6 : 6 ≤ k := by
   refine Classical.byContradiction fun hc => ?_
   have : 2 ^ (k + 1) ≤ 2 ^ 6 := Nat.pow_le_pow_right (by omega) (by omega)
   omega
  have : n / 2 ^ (k - 5) < 64 := by
   rw [Nat.div_lt_iff_lt_mul (Nat.pow_pos (by omega))]
   have e : 2 ^ (k + 1) = 64 * 2 ^ (k - 5) := by
    rw [show (64 : Nat) = 2 ^ 6 from rfl, ← Nat.pow_add]; congr 1; omega
   omega
  omega
structure CallR where
 hour : Int
 edge : Edge
 bad : Bool
 self : Int
def callF (c : CallR) : List AV := [.int .i64 c.hour, .str c.edge.1, .str c.edge.2, .bool c.bad, .int .u64 c.self]
def CallR.Rng (c : CallR) : Prop := (-9223372036854775808 ≤ c.hour ∧ c.hour < 9223372036854775808) ∧ 0 ≤ c.self ∧ c.self ≤ M64
def oneT (c : CallR) : Tal := ⟨(0, 1), (0, if c.bad = true then 1 else 0), (0, c.self), [((idxN c.self.toNat : Int), 1)]⟩
theorem oneT_ok {c : CallR} (h : c.Rng) : (oneT c).ok = true := by
 have := idxN_lt (n := c.self.toNat) (by have := h.2; unfold M64 at this; omega)
 simp [Tal.ok, oneT, okB]
 omega
theorem oneT_rng {c : CallR} (h : c.Rng) : (oneT c).Rng where
 a := ⟨⟨by simp [oneT], by simp [oneT, M64]⟩, by simp [oneT], by simp [oneT, M64]⟩
 b := by
  refine ⟨⟨by simp [oneT], by simp [oneT, M64]⟩, ?_⟩
  simp only [oneT]
  split <;> simp [M64]
 c := ⟨⟨by simp [oneT], by simp [oneT, M64]⟩, h.2.1, h.2.2⟩
 l := fun p hp => by
  have := idxN_lt (n := c.self.toNat) (by have := h.2; unfold M64 at this; omega)
  have : p = ((idxN c.self.toNat : Int), 1) := by simpa [oneT] using hp
  subst this
  refine ⟨?_, ?_, ?_, ?_⟩ <;> simp only [M64] <;> omega
theorem oneT_ne (c : CallR) : oneT c ≠ .zero := fun h => by simp [oneT, Tal.zero] at h
end
end Go.Eng.S

namespace Go.Eng.S
open Go Go.Eng Go.Proofs
set_option linter.constructorNameAsVariable false
noncomputable section
attribute [local irreducible] bsel barsOf mergeB
theorem Roll.trim {s : St} {r : Nat} {fan : Int} {G : RollF} {fp : List Nat} (h : Roll s r fan G fp) : ∃ fp', Roll s r fan G fp' ∧ (∀ c, c ∈ fp' → c ∈ fp) ∧ ∀ c, c ∈ fp' → s.h.get c ≠ none := by
 obtain ⟨m, M, h⟩ := h
 have hin : ∀ {c}, c ∈ fp → s.h.get c ≠ none → c ∈ fp.filter fun c => (s.h.get c).isSome := by
  intro c h1 h2
  refine List.mem_filter.2 ⟨h1, ?_⟩
  cases e : s.h.get c with
  | none => exact absurd e h2
  | some => rfl
 refine ⟨fp.filter fun c => (s.h.get c).isSome, ⟨m, M, h.own, h.map, h.good, hin h.rf h.own.there, hin h.mf h.map.there, fun hh x hx => ?_, h.none, h.inj⟩, fun c hc => (List.mem_filter.1 hc).1, fun c hc => ?_⟩
 ·obtain ⟨b, N, h1, h2, h3, h4⟩ := h.inner hh x hx
  refine ⟨b, N, h1, ⟨h2.map, h2.ne, fun e v hv => ?_, h2.none⟩, hin h3 h2.map.there, h4⟩
  obtain ⟨z, g1, g2, g3, g4⟩ := h2.some e v hv
  exact ⟨z, g1, g2, g3, fun c hc => hin (g4 c hc) (g2.there c hc)⟩
 ·have := (List.mem_filter.1 hc).2
  intro e
  rw [e] at this; simp at this
def oneG (c : CallR) : GT := toGT (oneT c)
def gK : List CallR → Int → Edge → GT
 | [], _, _ => .zero
 | c :: r, h, e => if c.hour = h ∧ c.edge = e then (oneG c).plus (gK r h e) else gK r h e
theorem gK_snoc : ∀ (K : List CallR) (c : CallR) (h : Int) (e : Edge), gK (K ++ [c]) h e = if c.hour = h ∧ c.edge = e then (gK K h e).plus (oneG c) else gK K h e
 | [], c, h, e => by
  simp only [List.nil_append, gK]
  split
  ·exact GT.comm _ _
  ·rfl
 | d :: r, c, h, e => by
  simp only [List.cons_append, gK, gK_snoc r c h e]
  by_cases h1 : d.hour = h ∧ d.edge = e
  ·rw [if_pos h1, if_pos h1]
   split
   ·exact (GT.assoc _ _ _).symm
   ·rfl
  ·rw [if_neg h1, if_neg h1]
theorem gK_ne {K : List CallR} {h : Int} {e : Edge} (hn : gK K h e ≠ .zero) : e ∈ K.map (·.edge) := by
 induction K with
 | nil => exact absurd rfl hn
 | cons c r ih =>
  simp only [gK] at hn
  split at hn
  ·rename_i hc
   exact List.mem_map.2 ⟨c, List.mem_cons_self .., hc.2⟩
  ·rw [List.map_cons]
   exact List.mem_cons_of_mem _ (ih hn)
theorem gsum_if {H : List Int} (hH : H.Nodup) (f : Int → GT) (k : Int) (a : GT) : gsum (H.map fun h => if k = h then a.plus (f h) else f h) = if k ∈ H then a.plus (gsum (H.map f)) else gsum (H.map f) := by
 induction H with
 | nil => simp
 | cons x r ih =>
  obtain ⟨h1, h2⟩ := List.nodup_cons.1 hH
  simp only [List.map_cons, gsum]
  rw [ih h2]
  by_cases e : k = x
  ·subst e
   rw [if_pos rfl, if_neg h1, if_pos (List.mem_cons_self ..), GT.assoc]
  ·rw [if_neg e]
   by_cases hk : k ∈ r
   ·rw [if_pos hk, if_pos (List.mem_cons_of_mem _ hk), ← GT.assoc, GT.comm (f x) a, GT.assoc]
   ·rw [if_neg hk, if_neg (by simp [e, hk])]
def callsIn (a b : Int) (K : List CallR) : List (Edge × Tal) := (K.filter fun c => decide (a ≤ c.hour) && decide (c.hour < b)).map fun c => (c.edge, oneT c)
theorem sumE_calls (a b : Int) (K : List CallR) (e : Edge) : sumE (callsIn a b K) e = gsum ((hrs a b).map fun h => gK K h e) := by
 induction K with
 | nil =>
  symm
  refine gsum_zero fun x hx => ?_
  obtain ⟨h, _, rfl⟩ := List.mem_map.1 hx
  rfl
 | cons c r ih =>
  have e1 : (fun h => gK (c :: r) h e) = fun h => if c.hour = h then (if c.edge = e then (oneG c).plus (gK r h e) else gK r h e) else gK r h e := by
   funext h
   simp only [gK]
   by_cases h1 : c.hour = h <;> by_cases h2 : c.edge = e <;> simp [h1, h2]
  rw [e1]
  by_cases h2 : c.edge = e
  ·simp only [h2, if_true]
   rw [gsum_if (hrs_nodup a b), ← ih]
   unfold callsIn
   by_cases h3 : c.hour ∈ hrs a b
   ·rw [if_pos h3, List.filter_cons_of_pos (by simpa using mem_hrs.1 h3), List.map_cons]
    unfold sumE
    rw [List.filter_cons_of_pos (by simpa using h2), List.map_cons]
    rfl
   ·rw [if_neg h3, List.filter_cons_of_neg (by rw [mem_hrs] at h3; simpa using h3)]
  ·simp only [h2, if_false, ite_self]
   rw [← ih]
   unfold callsIn
   by_cases h3 : c.hour ∈ hrs a b
   ·rw [List.filter_cons_of_pos (by simpa using mem_hrs.1 h3), List.map_cons]
    unfold sumE
    rw [List.filter_cons_of_neg (by simpa using h2)]
   ·rw [List.filter_cons_of_neg (by rw [mem_hrs] at h3; simpa using h3)]
def Holds (G : RollF) (K : List CallR) : Prop := ∀ h e, G h e = (gK K h e).1
theorem Holds.put {G : RollF} {K : List CallR} (h : Holds G K) {c : CallR} (hc : c.Rng) : Holds (setF G c.hour c.edge ((G c.hour c.edge).plus (oneT c))) (K ++ [c]) := by
 intro hh e
 rw [gK_snoc]
 unfold setF
 by_cases h1 : c.hour = hh ∧ c.edge = e
 ·rw [if_pos h1, if_pos ⟨h1.1.symm, h1.2.symm⟩, h, h1.1, h1.2]
  show _ = (gK K hh e).1.plus (oneG c).1
  unfold oneG
  rw [toGT_val (oneT_ok hc) (oneT_rng hc)]
 ·rw [if_neg h1, if_neg (fun h => h1 ⟨h.1.symm, h.2.symm⟩)]
  exact h hh e
theorem Holds.sum {G : RollF} {K : List CallR} (h : Holds G K) (hG : RollG G) (a b : Int) : sumH G hG a b = sumE (callsIn a b K) := by
 funext e
 rw [sumE_calls]
 unfold sumH
 congr 1
 exact List.map_congr_left fun x _ => Subtype.ext (h x e)
theorem Holds.mem {G : RollF} {K : List CallR} (h : Holds G K) (hh : Int) (e : Edge) (hn : G hh e ≠ .zero) : e ∈ K.map (·.edge) := by
 rw [h] at hn
 exact gK_ne (GT.val_ne.1 hn)
end
end Go.Eng.S

namespace Go.Eng.S
open Go Go.Eng Go.Proofs
set_option linter.constructorNameAsVariable false
set_option maxRecDepth 4000
noncomputable section
attribute [local irreducible] bsel barsOf mergeB
theorem nilK_ptr {t : TypeId} {b o : Nat} {K : Bool → Prop} (h : K false) : nilK (.ptr t) (.ptr b o) true K := by simpa [nilK, nilT] using h
theorem nilK_nilptr {t : TypeId} {K : Bool → Prop} (h : K true) : nilK (.ptr t) .nilptr true K := by simpa [nilK, nilT] using h
theorem Fr.ne {s : St} (h : Fr s) {c : Nat} (hc : s.h.get c ≠ none) : c ≠ s.nx := by
 rintro rfl; exact hc (h _ (Nat.le_refl _))
theorem sz_le {k n c : Nat} (hk : k ≤ n + 2) (hc : c ≤ 104) (hlen : (n + 2 + (n + 2) / 4 + 600) * 104 ≤ pow48) : (k + k / 4 + 600) * c ≤ pow48 := Nat.le_trans (Nat.mul_le_mul (by omega) hc) hlen
theorem sz_le' {k n : Nat} (hk : k ≤ n + 2) (hlen : (n + 2 + (n + 2) / 4 + 600) * 104 ≤ pow48) : k ≤ pow48 := Nat.le_trans (by omega) hlen
structure ListsI (s67 : St) (a b : Int) (K : List CallR) (x : AV) (s : St) (j : Nat) (XS : List (AV × List ET)) : Prop where
 so : So lsE s x XS
 new : ∀ c, c ∈ blkOf x → s67.h.get c = none
 each : ∀ p, p ∈ XS → (∀ c, c ∈ blkOf p.1 → c ∉ blkOf x) ∧ Sl etE s p.1 p.2 ∧ ∀ y, y ∈ p.2 → FineE s y ∧ ∀ c, c ∈ blkOf y.2.2 → c ∉ blkOf x
 told : etP (XS.flatMap (·.2)) = callsIn a b (K.take j)
 len : XS.length ≤ j
 len2 : (XS.flatMap (·.2)).length ≤ j
theorem callsIn_succ {a b : Int} {K : List CallR} {j : Nat} (hj : j < K.length) : callsIn a b (K.take (j + 1)) = callsIn a b (K.take j) ++ (if decide (a ≤ K[j].hour) && decide (K[j].hour < b) then [(K[j].edge, oneT K[j])] else []) := by
 rw [← List.take_append_getElem hj]
 unfold callsIn
 rw [List.filter_append, List.map_append]
 congr 1
 cases h : (decide (a ≤ K[j].hour) && decide (K[j].hour < b)) <;> simp [h]
theorem ListsI.skip {s67 : St} {a b : Int} {K : List CallR} {x : AV} {s : St} {j : Nat} {XS : List (AV × List ET)} (h : ListsI s67 a b K x s j XS) (hj : j < K.length) (hn : ¬ (a ≤ K[j].hour ∧ K[j].hour < b)) : ListsI s67 a b K x s (j + 1) XS where
 so := h.so
 new := h.new
 each := h.each
 told := by
  rw [callsIn_succ hj, if_neg (by simpa using hn), List.append_nil]; exact h.told
 len := by have := h.len; omega
 len2 := by have := h.len2; omega
theorem FineE.ext {s s' : St} {y : ET} (h : FineE s y) (hf : Frw [] s s') : FineE s' y := ⟨h.bar.ext hf, h.ok, h.rng, h.ne⟩
theorem ListsI.next {s67 : St} {a b : Int} {K : List CallR} {x : AV} {s75 s84 s97 : St} {j : Nat} {XS : List (AV × List ET)} (h : ListsI s67 a b K x s75 j XS) (f75 : Frw [] s67 s75) (hfr75 : Fr s75) (hB : Bump s75 16 s84) (hj : j < K.length) (hin : a ≤ K[j].hour ∧ K[j].hour < b) (hr : K[j].Rng) (hlen : (K.length + 2 + (K.length + 2) / 4 + 600) * 104 ≤ pow48) {z : AV} (hz : Sl barE s97 z (oneT K[j]).l) (hg : Gone s84 z) (f97 : Frw [] s84 s97) (hG : Gro s84 s97) :
  ∃ (x' : AV) (s' : St), appendX D (hsetS (hsetS s97 (s75.nx + 13) (cellsO [.slice (s75.nx + 12) 0 1 (.exact 1)])) (s75.nx + 12) (cellsO (etF (K[j].edge, oneT K[j], z)))) T.sl_sl_api_EdgeTally T.sl_sl_api_EdgeTally x (.slice (s75.nx + 13) 0 1 (.exact 1)) = some (x', s') ∧ ListsI s67 a b K x' s' (j + 1) (XS ++ [(.slice (s75.nx + 12) 0 1 (.exact 1), [(K[j].edge, oneT K[j], z)])]) ∧ Frw [] s67 s' ∧ Fr s' := by
 have hfree13 : s97.h.get (s75.nx + 13) = none := bump_free hB (by omega) hG
 have hfree12 : s97.h.get (s75.nx + 12) = none := bump_free hB (by omega) hG
 have hnx : s75.nx + 16 ≤ s97.nx := by have := hB.lt; have := hG.2.1; omega
 have p1 := hsetS_fwd (o := cellsO [.slice (s75.nx + 12) 0 1 (.exact 1)]) hfree13
 have x1 := hsetS_own (s := s97) (b := s75.nx + 13) (cs := [.slice (s75.nx + 12) 0 1 (.exact 1)])
 have y1 := hsetS_fr (o := cellsO [.slice (s75.nx + 12) 0 1 (.exact 1)]) hG.1 (show s75.nx + 13 < s97.nx by omega)
 have free12 : (hsetS s97 (s75.nx + 13) (cellsO [.slice (s75.nx + 12) 0 1 (.exact 1)])).h.get (s75.nx + 12) = none := by
  simp only [hsetS, PT.get_set]; rw [if_neg (by omega)]; exact hfree12
 have hnxA : (hsetS s97 (s75.nx + 13) (cellsO [.slice (s75.nx + 12) 0 1 (.exact 1)])).nx = s97.nx := rfl
 generalize hsetS s97 (s75.nx + 13) (cellsO [.slice (s75.nx + 12) 0 1 (.exact 1)]) = sA at p1 x1 y1 free12 hnxA ⊢
 have p2 := hsetS_fwd (o := cellsO (etF (K[j].edge, oneT K[j], z))) free12
 have x2 := hsetS_own (s := sA) (b := s75.nx + 12) (cs := etF (K[j].edge, oneT K[j], z))
 have y2 := hsetS_fr (o := cellsO (etF (K[j].edge, oneT K[j], z))) y1 (show s75.nx + 12 < sA.nx by omega)
 generalize hsetS sA (s75.nx + 12) (cellsO (etF (K[j].edge, oneT K[j], z))) = sB at p2 x2 y2 ⊢
 have fB : Frw [] s97 sB := p1.trans p2
 have f75B : Frw [] s75 sB := (hB.fwd.trans f97).trans fB
 have hjl := h.len
 have hb1 : (XS.length + 1 + (XS.length + 1) / 4 + 600) * 24 ≤ pow48 := sz_le (by omega) (by omega) hlen
 have hb2 : XS.length + 1 ≤ pow48 := sz_le' (by omega) hlen
 obtain ⟨x', s', q1, q2, q3, q4, q5, q6⟩ := So.append' (a := ((.slice (s75.nx + 12) 0 1 (.exact 1), [(K[j].edge, oneT K[j], z)]) : AV × List ET)) (h.so.ext f75B) ty.sl_sl_api_EdgeTally rfl ty.sl_api_EdgeTally rfl rfl rfl rfl (x1.ext p2).rd rfl hb1 hb2 y2
 have hthere : ∀ c, c ∈ blkOf x → s75.h.get c ≠ none := So.there h.so
 have n12 : ∀ c, c ∈ blkOf x → c ≠ s75.nx + 12 := by
  rintro c hc rfl
  exact hthere _ hc (hfr75 _ (by omega))
 have x2' := x2.fwd q3 fun hc => n12 _ hc rfl
 have hz' : Sl barE s' z (oneT K[j]).l := (hz.ext fB).beside q3 fun c hc => .inr fun hcz => hB.fwd.gone (hthere c hc) (by simp) (hg c hcz)
 have old : ∀ c, sB.h.get c ≠ none → c ∉ blkOf x' := by
  intro c hc hx
  rw [q4] at hx
  have : c = sB.nx := by simpa using hx
  exact Fr.ne y2 hc this
 refine ⟨x', s', q1, ⟨q2, fun c hc => ?_, fun p hp => ?_, ?_, ?_, ?_⟩, (f75.trans f75B).step q3 h.new, q5⟩
 ·rw [q4] at hc
  have : c = sB.nx := by simpa using hc
  rw [this]
  exact (f75.trans f75B).none (y2 _ (Nat.le_refl _)) (by simp)
 ·rcases List.mem_append.1 hp with hp | hp
  ·obtain ⟨e1, e2, e3⟩ := h.each p hp
   have e2B := e2.ext f75B
   refine ⟨fun c hc => old c (Sl.there e2B c hc), e2B.beside q3 fun c hc => .inr fun hcp => e1 c hcp hc, fun y hy => ?_⟩
   obtain ⟨g1, g2⟩ := e3 y hy
   have g1B := g1.ext f75B
   exact ⟨⟨g1B.bar.beside q3 fun c hc => .inr fun hcp => g2 c hcp hc, g1.ok, g1.rng, g1.ne⟩, fun c hc => old c (Sl.there g1B.bar c hc)⟩
  ·have : p = (.slice (s75.nx + 12) 0 1 (.exact 1), [(K[j].edge, oneT K[j], z)]) := by simpa using hp
   subst this
   refine ⟨fun c hc => old c ?_, .inr ⟨_, 0, 1, .exact 1, rfl, rfl, ?_⟩, fun y hy => ?_⟩
   ·have : c = s75.nx + 12 := by simpa [blkOf] using hc
    rw [this]; exact x2.there
   ·have := x2'.rd
    simpa [etE] using this
   ·have : y = (K[j].edge, oneT K[j], z) := by simpa using hy
    subst this
    exact ⟨⟨hz', oneT_ok hr, oneT_rng hr, oneT_ne _⟩, fun c hc => old c (Sl.there (hz.ext fB) c hc)⟩
 ·rw [callsIn_succ hj, if_pos (by simpa using hin), List.flatMap_append, etP_append, h.told]
  rfl
 ·rw [List.length_append, List.length_singleton]; have := h.len; omega
 ·rw [List.flatMap_append, List.length_append, List.flatMap_cons, List.flatMap_nil, List.append_nil, List.length_singleton]; have := h.len2; omega
end
end Go.Eng.S

namespace Go.Eng.S
open Go Go.Eng Go.Proofs
set_option linter.constructorNameAsVariable false
noncomputable section
attribute [local irreducible] bsel barsOf mergeB
theorem hp_some : ∀ {l : List (Nat × AObj)} {b : Nat} {o : AObj}, (b, o) ∈ l → (∀ o', (b, o') ∈ l → o' = o) → (hp l).get b = some o
 | [], _, _, h, _ => by simp at h
 | (c, x) :: r, b, o, h, hu => by
  simp only [hp, PT.get_set]
  split
  ·rename_i e
   subst e
   rw [hu x (List.mem_cons_self ..)]
  ·rename_i e
   rcases List.mem_cons.1 h with h | h
   ·simp only [Prod.mk.injEq] at h
    exact absurd h.1 e
   ·exact hp_some h fun o' ho' => hu o' (List.mem_cons_of_mem _ ho')
def hpX (s : St) (fp : List Nat) : PT AObj := hp (fp.filterMap fun b => (s.h.get b).map fun o => (b, o))
theorem hpX_get {s : St} {fp : List Nat} {b : Nat} {o : AObj} : (hpX s fp).get b = some o ↔ b ∈ fp ∧ s.h.get b = some o := by
 have hmem : ∀ {b o}, (b, o) ∈ fp.filterMap (fun b => (s.h.get b).map fun o => (b, o)) ↔ b ∈ fp ∧ s.h.get b = some o := by
  intro b o
  simp only [List.mem_filterMap, Option.map_eq_some_iff, Prod.mk.injEq]
  constructor
  ·rintro ⟨c, h1, x, h2, rfl, rfl⟩; exact ⟨h1, h2⟩
  ·rintro ⟨h1, h2⟩; exact ⟨b, h1, o, h2, rfl, rfl⟩
 constructor
 ·intro h; exact hmem.1 (hp_get h)
 ·intro h
  refine hp_some (hmem.2 h) fun o' ho' => ?_
  have := (hmem.1 ho').2
  rw [h.2] at this
  simpa using this.symm
theorem Roll.alone {s : St} {r : Nat} {fan : Int} {G : RollF} {fp : List Nat} (h : Roll s r fan G fp) (hf : Fr s) : Roll { s with h := hpX s fp } r fan G fp := by
 refine h.fwd (X := (List.range s.nx).filter fun c => decide (c ∉ fp)) ⟨fun c o hc ho => ?_, Nat.le_refl _, rfl⟩ fun c hc => by simpa using (List.mem_filter.1 hc).2
 have hlt : c < s.nx := by
  refine Classical.byContradiction fun hn => ?_
  rw [hf c (by omega)] at ho; simp at ho
 have : c ∈ fp := by
  refine Classical.byContradiction fun hn => hc ?_
  exact List.mem_filter.2 ⟨List.mem_range.2 hlt, by simpa using hn⟩
 exact hpX_get.2 ⟨this, ho⟩
end
end Go.Eng.S

namespace Go.Eng.S
open Go Go.Eng Go.Proofs
set_option linter.constructorNameAsVariable false
noncomputable section
attribute [local irreducible] bsel barsOf mergeB
section
variable {s : St} {L : List (Edge × Tal)}
end
def PW (R : AV → AV → Prop) (x y : List AV) : Prop := x.length = y.length ∧ ∀ (i : Nat) (b : AV), y[i]? = some b → ∃ a, x[i]? = some a ∧ R a b
theorem PW.nil {R : AV → AV → Prop} : PW R [] [] := ⟨rfl, by simp⟩
theorem PW.cons {R : AV → AV → Prop} {a b : AV} {x y : List AV} (h : R a b) (hs : PW R x y) : PW R (a :: x) (b :: y) :=
 ⟨by simp [hs.1], fun i c hc => by
  cases i with
  | zero => simp at hc; subst hc; exact ⟨a, by simp, h⟩
  | succ i => simpa using hs.2 i c (by simpa using hc)⟩
theorem PW.append {R : AV → AV → Prop} {x y x' y' : List AV} (h : PW R x y) (h' : PW R x' y') : PW R (x ++ x') (y ++ y') := by
 refine ⟨by simp [h.1, h'.1], fun i b hb => ?_⟩
 by_cases c : i < y.length
 ·rw [List.getElem?_append_left c] at hb
  obtain ⟨a, h1, h2⟩ := h.2 i b hb
  exact ⟨a, by rw [List.getElem?_append_left (by rw [h.1]; exact c)]; exact h1, h2⟩
 ·rw [List.getElem?_append_right (by omega)] at hb
  obtain ⟨a, h1, h2⟩ := h'.2 _ b hb
  exact ⟨a, by rw [List.getElem?_append_right (by rw [h.1]; omega), h.1]; exact h1, h2⟩
end
end Go.Eng.S

namespace Go.Eng.S
open Go Go.Eng Go.Proofs
set_option linter.constructorNameAsVariable false
set_option maxRecDepth 4000
noncomputable section
attribute [local irreducible] bsel barsOf mergeB
structure PutR where
 hour : Int
 edge : Edge
 tal : Tal
 bars : AV
def putF (p : PutR) : List AV := [.int .i64 p.hour, .str p.edge.1, .str p.edge.2, .int .u64 p.tal.a.1, .int .u64 p.tal.a.2, .int .u64 p.tal.b.1, .int .u64 p.tal.b.2, .int .u64 p.tal.c.1, .int .u64 p.tal.c.2, p.bars]
def putE : Enc PutR := ⟨putF, 10, by decide, fun _ => rfl⟩
structure FineP (s : St) (p : PutR) : Prop where
 bar : Sl barE s p.bars p.tal.l
 rng : p.tal.Rng
theorem FineP.ext {s s' : St} {p : PutR} (h : FineP s p) (hf : Frw [] s s') : FineP s' p := ⟨h.bar.ext hf, h.rng⟩
def putG (G : RollF) (p : PutR) : RollF := (putR G p.hour p.edge p.tal).1
def fillG (G : RollF) (l : List PutR) : RollF := l.foldl putG G
theorem putG_ne {G : RollF} {p : PutR} {h : Int} {e : Edge} (hn : putG G p h e ≠ .zero) : G h e ≠ .zero ∨ e = p.edge := by
 unfold putG putR at hn
 split at hn
 ·split at hn
  ·simp only [setF] at hn
   split at hn
   ·rename_i c; exact .inr c.2
   ·exact .inl hn
  ·exact .inl hn
 ·exact .inl hn
theorem fillG_ne : ∀ {l : List PutR} {G : RollF} {h : Int} {e : Edge}, fillG G l h e ≠ .zero → G h e ≠ .zero ∨ e ∈ l.map (·.edge)
 | [], _, _, _, hn => .inl hn
 | p :: r, G, h, e, hn => by
  rcases fillG_ne (l := r) hn with h1 | h1
  ·rcases putG_ne h1 with h2 | h2
   ·exact .inl h2
   ·exact .inr (by rw [h2]; exact List.mem_cons_self ..)
  ·exact .inr (List.mem_cons_of_mem _ h1)
structure RollO (s0 s : St) (r : Nat) (fan : Int) (G : RollF) (fp : List Nat) : Prop where
 roll : Roll s r fan G fp
 new : ∀ c, c ∈ fp → s0.h.get c = none
 there : ∀ c, c ∈ fp → s.h.get c ≠ none
theorem RollO.ext {s0 s s' : St} {r : Nat} {fan : Int} {G : RollF} {fp : List Nat} (h : RollO s0 s r fan G fp) (hf : Frw [] s s') : RollO s0 s' r fan G fp := ⟨h.roll.ext hf, h.new, fun c hc => hf.gone (h.there c hc) (by simp)⟩
theorem nilK_ptr' {t : TypeId} {b o : Nat} {K : Bool → Prop} (h : K true) : nilK (.ptr t) (.ptr b o) false K := by simpa [nilK, nilT] using h
theorem put_step {s0 s : St} {r : Nat} {fan : Int} {G : RollF} {fp : List Nat} (h : RollO s0 s r fan G fp) (f0 : Frw [] s0 s) {p : PutR} (hp : FineP s p) :
  CallsD P F.p_rollup_Rollup_Put [.ptr r 0, .int .i64 p.hour, edgeF p.edge, p.tal.V p.bars] s fun v s' => (v = .int .i64 (putR G p.hour p.edge p.tal).2 ∧ ∃ fp', RollO s0 s' r fan (putG G p) fp' ∧ (∀ c, c ∈ fp' → c ∈ fp ∨ s.h.get c = none)) ∧ Frw [] s0 s' ∧ Frw fp s s' ∧ Fr s' := by
 refine (Put_ok (hh := p.hour) (e := p.edge) h.roll hp.bar hp.rng).mono ?_
 rintro v s' ⟨⟨⟨rfl, fp', q1, q2, q3⟩, g⟩, hfr⟩
 obtain ⟨fp2, hR2, hsub, hth⟩ := q1.trim
 refine ⟨⟨rfl, fp2, ⟨hR2, fun c hc => ?_, hth⟩, fun c hc => q3 c (hsub c hc)⟩, f0.step g h.new, g, hfr⟩
 rcases q3 c (hsub c hc) with h1 | h1
 ·exact h.new c h1
 ·exact f0.none h1 (by simp)
theorem filled_ok {s : St} {fan : Int} {x : AV} {l : List PutR} (hx : Sl putE s x l) (hp : ∀ p, p ∈ l → FineP s p) (hlen : l.length < 9223372036854775808) :
  CallsD P F.spoorlaw15_filled [.int .i64 fan, x] s fun v s' => ((if 2 ≤ fan ∧ fan ≤ 16 then ∃ r fp, v = .ptr r 0 ∧ RollO s s' r fan (fillG zeroF l) fp else v = .nilptr) ∧ Frw [] s s') ∧ Fr s' := by
 refine CallsD.of fun hfr => vc.spoorlaw15_filled_ok ((New_ok (s := s) (fan := fan)).mono ?_)
 rintro v s2 ⟨⟨hv, f2⟩, hfr2⟩
 split at hv
 ·rename_i hfan
  obtain ⟨r, fp0, rfl, hR0, hnew0⟩ := hv
  obtain ⟨fp1, hR1, hsub1, hth1⟩ := hR0.trim
  refine ⟨.ptr r 0, 0, rfl, bsel_of (fun c => by simp at c) fun _ => ?_⟩
  refine ⟨fun n s8 m => ∃ (k : Nat) (fp : List Nat), n = k ∧ m = l.length - k ∧ k ≤ l.length ∧ RollO s s8 r fan (fillG zeroF (l.take k)) fp ∧ Frw [] s s8 ∧ Fr s8, ⟨_, 0, fp1, rfl, rfl, by omega, ⟨hR1, fun c hc => hnew0 c (hsub1 c hc), hth1⟩, f2, hfr2⟩, ?_⟩
  rintro _ s8 _ ⟨k, fp, rfl, rfl, hk, hR, f8, hfr8⟩
  refine (hx.ext f8).slen (bsel_of (fun c => ?_) fun c => ?_)
  ·have c : k < l.length := by simpa using c
   refine nilK_ptr' (bsel_of (fun _ => ?_) fun c => by simp at c)
   intro s12 hB
   have f12 := f8.trans hB.fwd
   have hx12 := hx.ext f12
   refine hx12.ixs rfl rfl c fun b1 o1 hR1 => ⟨_, hR1.ld1 0 rfl, hx12.ixs rfl rfl c fun b2 o2 hR2 => ⟨_, _, hR2.ldN 1 2 (by simp [putE, putF]), hx12.ixs rfl rfl c fun b3 o3 hR3 => ⟨_, _, _, _, _, _, l[k].bars, hR3.ldN 3 7 (by simp [putE, putF]), ?_⟩⟩⟩
   refine (put_step (p := l[k]) (hR.ext hB.fwd) f12 ((hp _ (List.getElem_mem c)).ext f12)).mono ?_
   rintro v s30 ⟨⟨rfl, fp', h1, h2⟩, h3, _, h4⟩
   refine ⟨_, rfl, l.length - (k + 1), by omega, k + 1, fp', wrap_succ (by omega), rfl, by omega, ?_, h3, h4⟩
   rw [← List.take_append_getElem c]
   unfold fillG at h1 ⊢
   rw [List.foldl_append]
   exact h1
  ·have c : k = l.length := by simp at c; omega
   subst c
   rw [List.take_length] at hR
   exact ⟨by rw [if_pos hfan]; exact ⟨r, fp, rfl, hR⟩, f8⟩
 ·rename_i hfan
  subst hv
  exact ⟨.nilptr, 1, rfl, bsel_of (fun _ => ⟨by rw [if_neg hfan], f2⟩) fun c => by simp at c⟩
end
end Go.Eng.S

namespace Go.Eng.S
open Go Go.Eng Go.Proofs
set_option linter.constructorNameAsVariable false
set_option maxRecDepth 4000
noncomputable section
attribute [local irreducible] bsel barsOf mergeB
theorem EtS.fwd {s0 s s' : St} {x : AV} {L : List ET} {M : List Nat} (h : EtS s0 s x L) (hf : Frw M s s') (hM : ∀ c, c ∈ M → s0.h.get c ≠ none) : EtS s0 s' x L where
 so := h.so.beside hf fun c hc hx => hM c hc (h.new c hx)
 bars := fun y hy => ⟨(h.bars y hy).1.beside hf fun c hc => .inr fun hx => hM c hc ((h.bars y hy).2 c hx), (h.bars y hy).2⟩
 new := h.new
theorem EtS.base {s0 s1 s : St} {x : AV} {L : List ET} (h : EtS s1 s x L) (hf : Frw [] s0 s1) : EtS s0 s x L where
 so := h.so
 bars := fun y hy => ⟨(h.bars y hy).1, fun c hc => hf.none ((h.bars y hy).2 c hc) (by simp)⟩
 new := fun c hc => hf.none (h.new c hc) (by simp)
structure WinR where
 at_ : Int
 width : Int
 x : AV
 L : List ET
def winF (w : WinR) : List AV := [.int .i64 w.at_, .int .i64 w.width, w.x]
def winE : Enc WinR := ⟨winF, 3, by decide, fun _ => rfl⟩
structure WinS (s0 s : St) (G : RollF) (hG : RollG G) (x : AV) (W : List WinR) : Prop where
 so : So winE s x W
 new : ∀ c, c ∈ blkOf x → s0.h.get c = none
 each : ∀ w, w ∈ W → Sl etE s w.x w.L ∧ Apart w.x x ∧ (∀ y, y ∈ w.L → Sl barE s y.2.2 y.2.1.l ∧ Apart y.2.2 x) ∧ ToldL (sumH G hG w.at_ (w.at_ + w.width)) (etP w.L)
theorem WinS.ext {s0 s s' : St} {G : RollF} {hG : RollG G} {x : AV} {W : List WinR} (h : WinS s0 s G hG x W) (hf : Frw [] s s') : WinS s0 s' G hG x W where
 so := h.so.ext hf
 new := h.new
 each := fun w hw => by
  obtain ⟨h1, h2, h3, h4⟩ := h.each w hw
  exact ⟨h1.ext hf, h2, fun y hy => ⟨(h3 y hy).1.ext hf, (h3 y hy).2⟩, h4⟩
theorem WinS.next {s0 s s1 s2 : St} {G : RollF} {hG : RollG G} {x : AV} {W : List WinR} {m : Nat} {w : WinR} (h : WinS s0 s G hG x W) (f0 : Frw [] s0 s) (hfr : Fr s) (hw : EtS s s1 w.x w.L) (ht : ToldL (sumH G hG w.at_ (w.at_ + w.width)) (etP w.L)) (f1 : Frw [] s s1) (hN : NewO s1 (cellsO (winF w)) m s2) (hlen : W.length ≤ 4194304) :
  ∃ x' s3, appendX D s2 T.sl_api_Window T.sl_api_Window x (.slice m 0 1 (.exact 1)) = some (x', s3) ∧ WinS s0 s3 G hG x' (W ++ [w]) ∧ Frw [] s0 s3 ∧ Fr s3 := by
 have f2 := f1.trans hN.fwd
 obtain ⟨x', s3, q1, q2, q3, q4, q5, q6⟩ := So.append' (a := w) (h.so.ext f2) ty.sl_api_Window rfl ty.api_Window rfl rfl rfl (show ones (winF w) = true by have := hw.so.sl.onesx []; simpa [winF, ones] using this) hN.own.rd rfl (show (W.length + 1 + (W.length + 1) / 4 + 600) * 40 ≤ pow48 by unfold pow48; omega) (by unfold pow48; omega) hN.fr
 have old : ∀ c, s2.h.get c ≠ none → c ∉ blkOf x' := fun c hc hx => by
  rw [q4] at hx
  have : c = s2.nx := by simpa using hx
  rw [this] at hc
  exact hc (hN.fr _ (Nat.le_refl _))
 have hth := So.there h.so
 refine ⟨x', s3, q1, ⟨q2, fun c hc => ?_, fun v hv => ?_⟩, (f0.trans f2).step q3 h.new, q5⟩
 ·rw [q4] at hc
  have : c = s2.nx := by simpa using hc
  rw [this]
  exact (f0.trans f2).none (hN.fr _ (Nat.le_refl _)) (by simp)
 ·rcases List.mem_append.1 hv with hv | hv
  ·obtain ⟨h1, h2, h3, h4⟩ := h.each v hv
   have h12 := h1.ext f2
   refine ⟨h12.beside q3 fun c hc => .inr fun hx => h2 c hx hc, fun c hc => old c (Sl.there h12 c hc), fun y hy => ?_, h4⟩
   have h32 := (h3 y hy).1.ext f2
   exact ⟨h32.beside q3 fun c hc => .inr fun hx => (h3 y hy).2 c hx hc, fun c hc => old c (Sl.there h32 c hc)⟩
  ·have : v = w := by simpa using hv
   subst this
   have h12 := hw.so.sl.ext hN.fwd
   refine ⟨h12.beside q3 fun c hc => .inr fun hx => hth c hc (hw.new c hx), fun c hc => old c (Sl.there h12 c hc), fun y hy => ?_, ht⟩
   have h32 := (hw.bars y hy).1.ext hN.fwd
   exact ⟨h32.beside q3 fun c hc => .inr fun hx => hth c hc ((hw.bars y hy).2 c hx), fun c hc => old c (Sl.there h32 c hc)⟩
end
end Go.Eng.S

namespace Go.Eng.S
open Go Go.Eng Go.Proofs
set_option linter.constructorNameAsVariable false
set_option maxRecDepth 4000
noncomputable section
attribute [local irreducible] bsel barsOf mergeB
end
end Go.Eng.S

