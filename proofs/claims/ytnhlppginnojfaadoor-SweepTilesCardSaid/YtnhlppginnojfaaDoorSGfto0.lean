/-
  From the roots down.
  A forest grows.
  Trees settled.
  'Build': a forest of spans.
  A forest is asked where a span stands.
  Spans as a row hands them in.
  The library's tables, as a row says them.
  A forest is asked: how many, all, roots, children; spans.
  A forest's order, what is above a span: plain.
-/
import Derived.Test.YtnhlppginnojfaaDoorSFbtoSGl
import Derived.Test.YtnhlppginnojfaaDoorSVfetoSVha
import Derived.Test.YtnhlppginnojfaaDoorSYvtoSFa
import Derived.Test.YtnhlppginnojfaaDoorW35to38
import Derived.Test.YtnhlppginnojfaaDoorW15to28
import Derived.Test.YtnhlppginnojfaaDoorW13to14
import Derived.Test.YtnhlppginnojfaaDoorW32to34
set_option linter.unusedVariables false
set_option linter.unusedSimpArgs false
namespace Go.Eng.S
open Go Go.Eng Go.Proofs
set_option linter.constructorNameAsVariable false
noncomputable section
attribute [local irreducible] bsel
def clo (mc : Nat) : AV := .func F.p_forest_Forest_settle_S1 [] [.ptr mc 0]
theorem get_S1 : D.fn.get F.p_forest_Forest_settle_S1 = some (fnI Tryd.f41) := by kernel_rfl
theorem rt_S1 : rt F.p_forest_Forest_settle_S1 = [] := by kernel_rfl
theorem callK_clo {mc : Nat} {a b : AV} {s : St} {K : AV → St → Prop} (h : CallsD P F.p_forest_Forest_settle_S1 [a, b, .ptr mc 0] s fun v s' => v = .tuple [] ∧ K (.tuple []) s') : callK P D rt true s (clo mc) [a, b] K := by
 unfold clo callK
 dsimp only
 unfold fnK
 rw [get_S1]
 dsimp only
 rw [rt_S1]
 exact h
structure Kp (o : Nat → Tg) (s : St) (o' : Nat → Tg) (s' : St) : Prop where
 tag : ∀ c, s.h.get c ≠ none → o' c = o c
 keep : ∀ c ob, 7 ≤ (o c).1 → s.h.get c = some ob → s'.h.get c = some ob
 there : ∀ c, s.h.get c ≠ none → s'.h.get c ≠ none
 fs : s'.fs = s.fs
theorem Kp.refl (o : Nat → Tg) (s : St) : Kp o s o s := ⟨fun _ _ => rfl, fun _ _ _ h => h, fun _ h => h, rfl⟩
theorem Kp.trans {o o1 o2 : Nat → Tg} {s s1 s2 : St} (h : Kp o s o1 s1) (h' : Kp o1 s1 o2 s2) : Kp o s o2 s2 :=
 ⟨fun c hc => (h'.tag c (h.there c hc)).trans (h.tag c hc), fun c ob ht hc => h'.keep c ob (by rw [h.tag c (by rw [hc]; simp)]; exact ht) (h.keep c ob ht hc), fun c hc => h'.there c (h.there c hc), h'.fs.trans h.fs⟩
theorem Kp.of {o : Nat → Tg} {s s' : St} {M : List Nat} (hf : Frw M s s') (hM : ∀ m, m ∈ M → (o m).1 < 7 ∧ s'.h.get m ≠ none) : Kp o s o s' :=
 ⟨fun _ _ => rfl, fun c ob ht hc => hf.1 c ob (fun hm => by have := (hM c hm).1; omega) hc, fun c hc => by
  by_cases hm : c ∈ M
  ·exact (hM c hm).2
  ·cases hx : s.h.get c with
   | none => exact absurd hx hc
   | some ob => rw [hf.1 c ob hm hx]; simp, hf.2.2⟩
theorem Kp.ext {o : Nat → Tg} {s s' : St} (hf : Frw [] s s') : Kp o s o s' := .of hf (by simp)
theorem Kp.new {o : Nat → Tg} {s s' : St} {b : Nat} {t : Tg} (hb : s.h.get b = none) (hf : Frw [] s s') : Kp o s (updF o b t) s' :=
 ⟨fun c hc => updF_ne _ _ (fun e => hc (e ▸ hb)), fun c ob _ hc => hf.1 c ob (by simp) hc, fun c hc => (Kp.ext (o := o) hf).there c hc, hf.2.2⟩
theorem Kp.own {o o' : Nat → Tg} {s s' : St} {b : Nat} {cs : List AV} (h : Kp o s o' s') (ho : Own s b cs) (ht : 7 ≤ (o b).1) : Own s' b cs := by
 obtain ⟨c, h1, h2⟩ := ho
 exact ⟨c, h.keep b _ ht h1, h2⟩
theorem Fo.wrNode {s0 s : St} {f : Nat} {B : Int → Nat} {o : Nat → Tg} {S : FoD} (h : Fo s0 s f B o S) {j : Int} (hj : j ∈ S.N) (off : Nat) (vs : List AV) (n' : Nd) (hv : ones vs = true) (ho : off + vs.length ≤ 21) (he : splice (S.pl j).cells off vs = ({ S.pl j with n := n' } : Pl).cells) :
  ∃ s', wrN s (.ptr (B j) off) vs = some s' ∧ Fo s0 s' f B o { S with pl := updF S.pl j { S.pl j with n := n' } } ∧ Kp o s o s' := by
 have hp := h.pl j hj
 obtain ⟨s', w1, o1, f1, n1, _, c1⟩ := hp.own.wrN off vs hv (by simpa [Pl.cells, SpX.cells, Nd.cells] using ho)
 rw [he] at o1
 refine ⟨s', w1, h.put hj f1 (Own.fr hp.own h.fr n1 c1) o1 rfl rfl rfl, .of f1 fun m hm => ?_⟩
 have : m = B j := by simpa using hm
 subst this
 rw [hp.tb]
 exact ⟨(by decide : (4 : Nat) < 7), o1.there⟩
structure SameT (anc : List Int) (S S' : FoD) : Prop where
 mb : S'.mb = S.mb
 ids : S'.ids = S.ids
 il : S'.il = S.il
 rts : S'.rts = S.rts
 rl : S'.rl = S.rl
 N : S'.N = S.N
 x : ∀ i, (S'.pl i).x = (S.pl i).x
 k : ∀ i, (S'.pl i).k = (S.pl i).k
 ks : ∀ i, (S'.pl i).ks.Perm (S.pl i).ks
 id : ∀ i, (S'.pl i).n.id = (S.pl i).n.id
 par : ∀ i, (S'.pl i).n.par = (S.pl i).n.par
 org : ∀ i, (S'.pl i).n.org = (S.pl i).n.org
 anc : ∀ i, i ∈ anc → (S'.pl i).ks = (S.pl i).ks
theorem SameT.refl (anc : List Int) (S : FoD) : SameT anc S S := ⟨rfl, rfl, rfl, rfl, rfl, rfl, fun _ => rfl, fun _ => rfl, fun _ => .refl _, fun _ => rfl, fun _ => rfl, fun _ => rfl, fun _ _ => rfl⟩
theorem SameT.trans {anc : List Int} {S S1 S2 : FoD} (h : SameT anc S S1) (h' : SameT anc S1 S2) : SameT anc S S2 :=
 ⟨h'.mb.trans h.mb, h'.ids.trans h.ids, h'.il.trans h.il, h'.rts.trans h.rts, h'.rl.trans h.rl, h'.N.trans h.N, fun i => (h'.x i).trans (h.x i), fun i => (h'.k i).trans (h.k i), fun i => (h'.ks i).trans (h.ks i), fun i => (h'.id i).trans (h.id i), fun i => (h'.par i).trans (h.par i), fun i => (h'.org i).trans (h.org i), fun i hi => (h'.anc i hi).trans (h.anc i hi)⟩
theorem SameT.sub {anc anc' : List Int} {S S1 : FoD} (h : SameT anc S S1) (hs : ∀ i, i ∈ anc' → i ∈ anc) : SameT anc' S S1 := { h with anc := fun i hi => h.anc i (hs i hi) }
theorem SameT.C {anc : List Int} {S S1 : FoD} (h : SameT anc S S1) : S1.C = S.C := by
 funext i; unfold FoD.C; rw [h.x]
theorem SameT.up {anc : List Int} {S S1 : FoD} (h : SameT anc S S1) : S1.up = S.up := by unfold FoD.up; rw [h.C, h.N]
theorem SameT.node {anc : List Int} {S : FoD} {j : Int} {n' : Nd} (h1 : n'.id = (S.pl j).n.id) (h2 : n'.par = (S.pl j).n.par) (h3 : n'.org = (S.pl j).n.org) : SameT anc S { S with pl := updF S.pl j { S.pl j with n := n' } } := by
 have key : ∀ {γ : Type} (g : Pl → γ), g { S.pl j with n := n' } = g (S.pl j) → ∀ i, g (updF S.pl j { S.pl j with n := n' } i) = g (S.pl i) := fun g hg i => by
  by_cases e : i = j
  ·subst e; rw [updF_same]; exact hg
  ·rw [updF_ne _ _ e]
 exact ⟨rfl, rfl, rfl, rfl, rfl, rfl, key (·.x) rfl, key (·.k) rfl, fun i => by rw [show ({ S with pl := updF S.pl j { S.pl j with n := n' } } : FoD).pl i = updF S.pl j { S.pl j with n := n' } i from rfl, key (·.ks) rfl i], key (·.n.id) h1, key (·.n.par) h2, key (·.n.org) h3, fun i _ => key (·.ks) rfl i⟩
structure TreeI (S : FoD) : Prop where
 hid : ∀ i, i ∈ S.N → (S.pl i).n.id = i
 kids : ∀ i, i ∈ S.N → ∀ j, j ∈ (S.pl i).ks → j ∈ S.N ∧ (S.pl j).n.org = 0 ∧ (S.C j).par = i
 len : ∀ i, i ∈ S.N → (S.pl i).ks.length < 1000000
 ndk : ∀ i, i ∈ S.N → (S.pl i).ks.Nodup
 all : ∀ j, j ∈ S.N → (S.pl j).n.org = 0 → (S.C j).par ∈ S.N ∧ j ∈ (S.pl (S.C j).par).ks
 acy : ∀ x, Ring S.up x → ∃ y, Reach S.up x y ∧ (S.pl y).n.org ≠ 0
theorem TreeI.same {anc : List Int} {S S' : FoD} (h : TreeI S) (hs : SameT anc S S') : TreeI S' :=
 ⟨fun i hi => by rw [hs.id]; exact h.hid i (hs.N ▸ hi), fun i hi j hj => by
  rw [hs.N] at hi ⊢
  rw [hs.org, hs.C]
  exact h.kids i hi j ((hs.ks i).mem_iff.1 hj), fun i hi => by rw [(hs.ks i).length_eq]; exact h.len i (hs.N ▸ hi), fun i hi => (hs.ks i).nodup_iff.2 (h.ndk i (hs.N ▸ hi)), fun j hj hg => by
  rw [hs.N] at hj ⊢
  rw [hs.org] at hg
  rw [hs.C]
  obtain ⟨k1, k2⟩ := h.all j hj hg
  exact ⟨k1, (hs.ks _).mem_iff.2 k2⟩, fun x hx => by
  rw [hs.up] at hx ⊢
  obtain ⟨y, h1, h2⟩ := h.acy x hx
  exact ⟨y, h1, by rw [hs.org]; exact h2⟩⟩
def Vis (T : Int → Tv) (S : FoD) (i : Int) : Prop := (S.pl i).n.tv = T i
def RV (T : Int → Tv) (S : FoD) (i : Int) : Prop := ((S.pl i).n.depth = 0 ∧ (S.pl i).n.fr = (S.C i).t0 ∧ (S.pl i).n.till = (S.C i).t1) ∨ Vis T S i
structure Ste (T : Int → Tv) (S S' : FoD) : Prop where
 vis : ∀ i, Vis T S i → Vis T S' i
 rv : ∀ i, RV T S i → RV T S' i
 srt : ∀ i, i ∈ S.N → Srt T (S.pl i).ks → Srt T (S'.pl i).ks
theorem Ste.refl (T : Int → Tv) (S : FoD) : Ste T S S := ⟨fun _ h => h, fun _ h => h, fun _ _ h => h⟩
theorem Ste.trans {T : Int → Tv} {S S1 S2 : FoD} (h : Ste T S S1) (h' : Ste T S1 S2) (hN : S1.N = S.N) : Ste T S S2 :=
 ⟨fun i hi => h'.vis i (h.vis i hi), fun i hi => h'.rv i (h.rv i hi), fun i hi hs => h'.srt i (hN.symm ▸ hi) (h.srt i hi hs)⟩
inductive Bel (S : FoD) : Int → Int → Prop
 | kid {p j : Int} : j ∈ (S.pl p).ks → Bel S p j
 | down {p j i : Int} : j ∈ (S.pl p).ks → Bel S j i → Bel S p i
theorem Bel.same {S S' : FoD} (hs : ∀ i, ((S'.pl i).ks.Perm (S.pl i).ks)) {p i : Int} (h : Bel S p i) : Bel S' p i := by
 induction h with
 | kid h => exact .kid ((hs _).mem_iff.2 h)
 | down h _ ih => exact .down ((hs _).mem_iff.2 h) ih
theorem Bel.snoc {S : FoD} {p q i : Int} (h : Bel S p q) (hi : i ∈ (S.pl q).ks) : Bel S p i := by
 induction h with
 | kid h => exact .down h (.kid hi)
 | down h _ ih => exact .down h (ih hi)
theorem Bel.inN {S : FoD} (hT : TreeI S) {p i : Int} (h : Bel S p i) (hp : p ∈ S.N) : i ∈ S.N := by
 induction h with
 | kid h => exact (hT.kids _ hp _ h).1
 | down h _ ih => exact ih (hT.kids _ hp _ h).1
structure Dn (T : Int → Tv) (S : FoD) (j : Int) : Prop where
 vis : Vis T S j
 srt : Srt T (S.pl j).ks
 bel : ∀ i, Bel S j i → Vis T S i ∧ Srt T (S.pl i).ks
theorem Dn.same {T : Int → Tv} {anc : List Int} {S S' : FoD} {j : Int} (hT : TreeI S) (hj : j ∈ S.N) (h : Dn T S j) (hs : SameT anc S S') (he : Ste T S S') : Dn T S' j := by
 refine ⟨he.vis j h.vis, he.srt j hj h.srt, fun i hi => ?_⟩
 have hb : Bel S j i := hi.same fun i => (hs.ks i).symm
 obtain ⟨h1, h2⟩ := h.bel i hb
 exact ⟨he.vis i h1, he.srt i (hb.inN hT hj) h2⟩
def TvI (T : Int → Tv) (S : FoD) : Prop := ∀ i, i ∈ S.N → (S.pl i).n.org = 0 → T i = stepT (S.C i) (T (S.C i).par)
theorem TvI.same {T : Int → Tv} {anc : List Int} {S S' : FoD} (h : TvI T S) (hs : SameT anc S S') : TvI T S' := fun i hi hg => by
 rw [hs.C]
 exact h i (hs.N ▸ hi) (hs.org i ▸ hg)
def AncOk (S : FoD) : List Int → Prop
 | [] => True
 | [r] => (S.pl r).n.org ≠ 0
 | x :: y :: r => (S.pl x).n.org = 0 ∧ S.up x = some y ∧ AncOk S (y :: r)
theorem AncOk.same {anc : List Int} {S S' : FoD} (hs : SameT anc S S') : ∀ {l : List Int}, AncOk S l → AncOk S' l
 | [], _ => trivial
 | [r], h => by show (S'.pl r).n.org ≠ 0; rw [hs.org]; exact h
 | x :: y :: r, h => ⟨by rw [hs.org]; exact h.1, by rw [hs.up]; exact h.2.1, AncOk.same hs h.2.2⟩
theorem AncOk.ahead {S : FoD} {j : Int} {D : List Int} : ∀ {A : List Int}, AncOk S (A ++ j :: D) → (∀ x, x ∈ A → (S.pl x).n.org = 0) ∧ Way S.up A (some j)
 | [], _ => ⟨by simp, trivial⟩
 | [x], h => ⟨by intro y hy; have : y = x := by simpa using hy
                 subst this; exact h.1, h.2.1⟩
 | x :: y :: r, h => by
  obtain ⟨h1, h2⟩ := AncOk.ahead (A := y :: r) h.2.2
  exact ⟨fun z hz => by
   rcases List.mem_cons.1 hz with rfl | hz
   ·exact h.1
   ·exact h1 z hz, h.2.1, h2⟩
theorem AncOk.notin {S : FoD} (hT : TreeI S) {p j : Int} {anc : List Int} (h : AncOk S (p :: anc)) (hp : p ∈ S.N) (hj : j ∈ (S.pl p).ks) : j ∉ p :: anc ∧ AncOk S (j :: p :: anc) := by
 obtain ⟨k1, k2, k3⟩ := hT.kids p hp j hj
 have hu : S.up j = some p := by
  unfold FoD.up upC
  rw [k3, if_pos hp]
 refine ⟨fun hm => ?_, k2, hu, h⟩
 obtain ⟨A, D, e⟩ := List.append_of_mem hm
 rw [e] at h
 obtain ⟨h1, h2⟩ := h.ahead
 have hw : Way S.up (j :: A) (some j) := by
  cases A with
  | nil =>
   simp only [List.nil_append, List.cons.injEq] at e
   show S.up j = some j
   rw [hu, e.1]
  | cons a A =>
   simp only [List.cons_append, List.cons.injEq] at e
   exact ⟨by rw [hu, e.1], h2⟩
 obtain ⟨r1, r2⟩ := hw.ring
 obtain ⟨y, y1, y2⟩ := hT.acy j r1
 rcases List.mem_cons.1 ((r2 y).1 y1) with rfl | hy
 ·exact y2 k2
 ·exact y2 (h1 y hy)
theorem Fo.sortK {s0 s s' : St} {f : Nat} {B : Int → Nat} {o : Nat → Tg} {S : FoD} (h : Fo s0 s f B o S) {p : Int} (hp : p ∈ S.N) {ks' : List Int} (hf : Frw (blkOf (S.pl p).k) s s') (hfr : Fr s') (hso : So (ptE B) s' (S.pl p).k ks') :
  Fo s0 s' f B o { S with pl := updF S.pl p { S.pl p with ks := ks' } } := by
 have hP := h.pl p hp
 have hM : ∀ m, m ∈ blkOf (S.pl p).k → o m = (5, p) := hP.tk
 have nt : ∀ {c : Nat}, o c ≠ (5, p) → c ∉ blkOf (S.pl p).k := fun hc hm => hc (hM _ hm)
 refine ⟨h.nd, h.own.fwd hf (nt (by rw [h.tf]; simp)), h.map.fwd hf (nt (by rw [h.tm]; simp)), h.ids.beside hf fun m hm hc => by have := hM m hm; rw [h.ti m hc] at this; simp at this,
  h.rts.beside hf fun m hm hc => by have := hM m hm; rw [h.tr m hc] at this; simp at this, h.tf, h.tm, h.ti, h.tr, fun i hi => ?_, h.new, h.fwd.step hf (fun c hc => h.new c (by rw [hM c hc]; exact (by decide : (5 : Nat) < 7))), hfr⟩
 by_cases e : i = p
 ·subst e
  simp only [updF_same]
  exact ⟨hP.own.fwd hf (nt (by rw [hP.tb]; simp)), ⟨Sl.fwdM hP.at'.x hf fun m hm hc => by have := hP.tx m hc; rw [hM m hm] at this; simp at this, Sl.fwdM hP.at'.y hf fun m hm hc => by have := hP.ty m hc; rw [hM m hm] at this; simp at this, Sl.fwdM hP.at'.z hf fun m hm hc => by have := hP.tz m hc; rw [hM m hm] at this; simp at this⟩, hso, hP.tb, hP.tk, hP.tx, hP.ty, hP.tz⟩
 ·simp only [updF_ne _ _ e]
  refine (h.pl i hi).fwd hf fun m hm => ?_
  rw [hM m hm]
  refine ⟨by simp, fun h => e ?_, by simp⟩
  have := congrArg Prod.snd h
  exact this.symm
set_option maxHeartbeats 1000000 in
set_option maxRecDepth 10000 in
theorem Down_ok {T : Int → Tv} {s0 : St} {f mc : Nat} {B : Int → Nat} : ∀ (fuel : Nat) (anc : List Int) (p : Int) (s : St) (o : Nat → Tg) (S : FoD) (u : Nd), Fo s0 s f B o S → o mc = (8, 0) → Own s mc [clo mc] → TreeI S → AncOk S (p :: anc) → (p :: anc).Nodup → (∀ i, i ∈ p :: anc → i ∈ S.N) → S.N.length ≤ anc.length + fuel → TvI T S → u.tv = T p → (∀ i, i ∈ S.N → RV T S i) →
  CallsD P F.p_forest_Forest_settle_S1 [.ptr (B p) 0, .agg u.cells, .ptr mc 0] s fun v s' => v = .tuple [] ∧ ∃ o' S', Fo s0 s' f B o' S' ∧ SameT anc S S' ∧ Kp o s o' s' ∧ Ste T S S' ∧ Srt T (S'.pl p).ks ∧ ∀ j, j ∈ (S.pl p).ks → Dn T S' j := by
 intro fuel
 induction fuel with
 | zero =>
  intro anc p s o S u _ _ _ _ _ hnd hN hf _ _ _
  have := nodup_len hnd hN
  simp only [List.length_cons] at this
  omega
 | succ fuel ih =>
  intro anc p s o S u h hmc hcl hT hA hnd hN hfu hTv hu hRV
  refine CallsD.fr fun hfr => vc.p_forest_Forest_settle_S1_ok ?_
  intro m1 s2 n2
  have hpN : p ∈ S.N := hN p (List.mem_cons_self ..)
  have K2 : Kp o s (updF o m1 (8, 1)) s2 := .new n2.gone n2.fwd
  have h2 : Fo s0 s2 f B (updF o m1 (8, 1)) S := (h.tag n2.gone (8, 1)).ext n2.fwd n2.fr
  have t1 : (updF o m1 (8, 1)) m1 = (8, 1) := updF_same _ _ _
  have tc : (updF o m1 (8, 1)) mc = (8, 0) := (K2.tag mc hcl.there).trans hmc
  have o1 : Own s2 m1 u.cells := n2.own
  have oc : Own s2 mc [clo mc] := hcl.ext n2.fwd
  generalize updF o m1 (8, 1) = o2 at K2 h2 t1 tc
  have hk2 := (h2.pl p hpN).kids
  refine ptrK_of ⟨_, (h2.pl p hpN).own.ld1 20 rfl, hk2.sl.slen ?_⟩
  have hlen := hT.len p hpN
  refine ⟨fun n s' m => ∃ (i : Nat) (o1 : Nat → Tg) (S1 : FoD), n = i ∧ m = (S.pl p).ks.length - i ∧ i ≤ (S.pl p).ks.length ∧ Fo s0 s' f B o1 S1 ∧ SameT (p :: anc) S S1 ∧ Kp o2 s2 o1 s' ∧ Ste T S S1 ∧ ∀ j, j ∈ (S.pl p).ks.take i → Dn T S1 j,
   ⟨_, 0, o2, S, rfl, rfl, by omega, h2, .refl _ _, .refl _ _, .refl _ _, by simp⟩, ?_⟩
  rintro _ s10 _ ⟨i, o3, S1, rfl, rfl, hi, hF, hS, hK, hE, hDn⟩
  have hT1 := hT.same hS
  have hks : (S1.pl p).ks = (S.pl p).ks := hS.anc p (List.mem_cons_self ..)
  have hN1 : S1.N = S.N := hS.N
  have hp1 : p ∈ S1.N := hN1 ▸ hpN
  refine bsel_of (fun c => ?_) fun c => ?_
  ·have c : i < (S.pl p).ks.length := by simpa using c
   have hki : Sl (ptE B) s10 (S.pl p).k (S.pl p).ks := by
    have := (hF.pl p hp1).kids.sl
    rw [hS.k, hks] at this
    exact this
   have hjm : (S.pl p).ks[i] ∈ (S.pl p).ks := List.getElem_mem _
   have htk : (S.pl p).ks.take (i + 1) = (S.pl p).ks.take i ++ [(S.pl p).ks[i]] := List.take_succ_eq_append_getElem c
   refine hki.ixs rfl rfl c fun b o' hr => ⟨_, hr.ld1 0 rfl, ?_⟩
   generalize (S.pl p).ks[i] = j at hjm htk
   intro s15 b15
   obtain ⟨k1, k2, k3⟩ := hT.kids p hpN j hjm
   have hj1 : j ∈ S1.N := hN1 ▸ k1
   have hF15 := hF.ext b15.fwd b15.fr
   have K15 : Kp o2 s2 o3 s15 := hK.trans (.ext b15.fwd)
   have o15 : Own s15 m1 u.cells := K15.own o1 (by rw [t1]; decide)
   refine ⟨_, o15.ld1 3 rfl, _, o15.ld1 4 rfl, ptrK_of ⟨_, _, (hF15.pl j hj1).own.ldN 18 2 (by simp [Pl.cells, SpX.cells, Nd.cells]), _, _, o15.ldN 5 2 (by simp [Nd.cells]), (CallsD.of fun _ => Clip_ok _ _ _ _ _).mono ?_⟩⟩
   rintro _ s25 ⟨⟨rfl, f25⟩, fr25⟩
   have hF25 := hF15.ext f25 fr25
   have K25 : Kp o2 s2 o3 s25 := K15.trans (.ext f25)
   have o25 : Own s25 m1 u.cells := o15.ext f25
   obtain ⟨s30, w30, hF30, K30⟩ := hF25.wrNode hj1 16 [.int .u64 u.tree] { (S1.pl j).n with tree := u.tree } rfl (by simp) rfl
   have K30' := K25.trans K30
   have hj30 : j ∈ S1.N := hj1
   obtain ⟨s33, w33, hF33, K33⟩ := hF30.wrNode hj30 17 [.int .i64 (IntKind.wrap .i64 (u.depth + 1))] { (S1.pl j).n with tree := u.tree, depth := IntKind.wrap .i64 (u.depth + 1) } rfl (by simp) (by simp only [updF_same]; rfl)
   have K33' := K30'.trans K33
   obtain ⟨s36, w36, hF36, K36⟩ := hF33.wrNode hj30 18 [.int .i64 (clipI (S1.pl j).n.fr (S1.pl j).n.till u.fr u.till).1, .int .i64 (clipI (S1.pl j).n.fr (S1.pl j).n.till u.fr u.till).2] { (S1.pl j).n with tree := u.tree, depth := IntKind.wrap .i64 (u.depth + 1), fr := (clipI (S1.pl j).n.fr (S1.pl j).n.till u.fr u.till).1, till := (clipI (S1.pl j).n.fr (S1.pl j).n.till u.fr u.till).2 } rfl (by simp) (by simp only [updF_same]; rfl)
   have K36' := K33'.trans K36
   have o30 : Own s30 m1 u.cells := K30'.own o1 (by rw [t1]; decide)
   refine ⟨_, _, rfl, o25.ld1 4 rfl, o25.ld1 3 rfl, ptrK_of ⟨s30, w30, o30.ld1 4 rfl, ptrK_of ⟨s33, w33, ptrK_of ⟨s36, w36, fun s37 b37 => ?_⟩⟩⟩⟩
   have hS36 := ((hS.trans (SameT.node (j := j) (n' := { (S1.pl j).n with tree := u.tree }) rfl rfl rfl)).trans (SameT.node (j := j) (n' := { (S1.pl j).n with tree := u.tree, depth := IntKind.wrap .i64 (u.depth + 1) }) (by simp only [updF_same]) (by simp only [updF_same]) (by simp only [updF_same]))).trans (SameT.node (j := j) (n' := { (S1.pl j).n with tree := u.tree, depth := IntKind.wrap .i64 (u.depth + 1), fr := (clipI (S1.pl j).n.fr (S1.pl j).n.till u.fr u.till).1, till := (clipI (S1.pl j).n.fr (S1.pl j).n.till u.fr u.till).2 }) (by simp only [updF_same]) (by simp only [updF_same]) (by simp only [updF_same]))
   have hF37 := hF36.ext b37.fwd b37.fr
   have K37 := K36'.trans (.ext b37.fwd)
   obtain ⟨n4, hn4⟩ : ∃ n4 : Nd, n4 = { (S1.pl j).n with tree := u.tree, depth := IntKind.wrap .i64 (u.depth + 1), fr := (clipI (S1.pl j).n.fr (S1.pl j).n.till u.fr u.till).1, till := (clipI (S1.pl j).n.fr (S1.pl j).n.till u.fr u.till).2 } := ⟨_, rfl⟩
   obtain ⟨S4, hF37, hS36, hpl⟩ : ∃ S4 : FoD, Fo s0 s37 f B o3 S4 ∧ SameT (p :: anc) S S4 ∧ ∀ i, S4.pl i = if i = j then { S1.pl j with n := n4 } else S1.pl i := ⟨_, hF37, hS36, fun i => by
    by_cases e : i = j
    ·subst e
     simp only [updF_same, if_true, hn4]
    ·simp only [updF_ne _ _ e, if_neg e]⟩
   have hS14 : ∀ i, (S4.pl i).ks = (S1.pl i).ks := fun i => by
    rw [hpl]
    split
    ·rename_i e; rw [e]
    ·rfl
   have hC14 : S4.C = S1.C := hS36.C.trans hS.C.symm
   have hv4 : Vis T S4 j := by
    unfold Vis
    rw [hpl, if_pos rfl]
    have e1 := hTv j k1 k2
    rw [k3] at e1
    have e2 : ∀ {a b : Int}, T p = u.tv → ((a = (S.C j).t0 ∧ b = (S.C j).t1) ∨ (a = (T j).fr ∧ b = (T j).till)) → clipI a b u.fr u.till = clipI (S.C j).t0 (S.C j).t1 u.fr u.till := by
     rintro a b e (⟨rfl, rfl⟩ | ⟨rfl, rfl⟩)
     ·rfl
     ·rw [e1, e]
      exact clipI_idem _ _ _ _
    have e3 : clipI (S1.pl j).n.fr (S1.pl j).n.till u.fr u.till = clipI (S.C j).t0 (S.C j).t1 u.fr u.till := by
     refine e2 hu.symm ?_
     rcases hE.rv j (hRV j k1) with ⟨_, h1, h2⟩ | h1
     ·rw [hS.C] at h1 h2
      exact .inl ⟨h1, h2⟩
     ·refine .inr ⟨?_, ?_⟩
      ·rw [← show (S1.pl j).n.tv = T j from h1]; rfl
      ·rw [← show (S1.pl j).n.tv = T j from h1]; rfl
    rw [hn4, e1, ← hu]
    show (⟨_, _, _, _⟩ : Tv) = _
    rw [e3]
    rfl
   have hE4 : Ste T S1 S4 := by
    refine ⟨fun i hi => ?_, fun i hi => ?_, fun i _ hi => by rw [hS14]; exact hi⟩
    ·by_cases e : i = j
     ·rw [e]; exact hv4
     ·unfold Vis; rw [hpl, if_neg e]; exact hi
    ·by_cases e : i = j
     ·rw [e]; exact .inr hv4
     ·unfold RV Vis; rw [hpl, if_neg e, hC14]; exact hi
   have hE04 := hE.trans hE4 hN1
   have hT4 := hT.same hS36
   have hj4 : j ∈ S4.N := hS36.N.symm ▸ k1
   obtain ⟨hjn, hA4⟩ := hA.notin hT hpN hjm
   have oc37 : Own s37 mc [clo mc] := K37.own oc (by rw [tc]; decide)
   have tc37 : o3 mc = (8, 0) := (hK.tag mc oc.there).trans tc
   refine ⟨clo mc, oc37.ld1 0 rfl, ptrK_of ⟨_, _, _, _, _, _, _, (hF37.pl j hj4).own.ldN 13 7 (by simp [Pl.cells, SpX.cells, Nd.cells]), callK_clo ?_⟩⟩
   refine (ih (p :: anc) j s37 o3 S4 (S4.pl j).n hF37 tc37 oc37 hT4 (hA4.same hS36) (List.nodup_cons.2 ⟨hjn, hnd⟩) (fun i hi => ?_) ?_ (hTv.same hS36) hv4 (fun i hi => hE04.rv i (hRV i (hS36.N ▸ hi)))).mono ?_
   ·rw [hS36.N]
    rcases List.mem_cons.1 hi with rfl | hi
    ·exact k1
    ·exact hN i hi
   ·rw [hS36.N]
    simp only [List.length_cons]
    omega
   ·rintro _ s49 ⟨rfl, o5, S5, hF5, hS5, K5, hE5, hsrt5, hDn5⟩
    refine ⟨rfl, (S.pl p).ks.length - (i + 1), by omega, i + 1, o5, S5, wrap_i64 (by omega) (by omega), rfl, by omega, hF5, hS36.trans hS5, K37.trans K5, hE04.trans hE5 hS36.N, fun q hq => ?_⟩
    rw [htk] at hq
    rcases List.mem_append.1 hq with hq | hq
    ·have hqS : q ∈ S.N := (hT.kids p hpN q (List.mem_of_mem_take hq)).1
     have hS14' : SameT [] S1 S4 := ⟨hS36.mb.trans hS.mb.symm, hS36.ids.trans hS.ids.symm, hS36.il.trans hS.il.symm, hS36.rts.trans hS.rts.symm, hS36.rl.trans hS.rl.symm, hS36.N.trans hS.N.symm, fun i => (hS36.x i).trans (hS.x i).symm, fun i => (hS36.k i).trans (hS.k i).symm, fun i => by rw [hS14], fun i => (hS36.id i).trans (hS.id i).symm, fun i => (hS36.par i).trans (hS.par i).symm, fun i => (hS36.org i).trans (hS.org i).symm, fun i _ => hS14 i⟩
     exact ((hDn q hq).same hT1 (hN1.symm ▸ hqS) hS14' hE4).same hT4 (hS36.N.symm ▸ hqS) hS5 hE5
    ·have : q = j := by simpa using hq
     subst this
     refine ⟨hE5.vis q hv4, hsrt5, fun i hb => ?_⟩
     have hb4 : Bel S4 q i := hb.same fun i => (hS5.ks i).symm
     cases hb4 with
     | kid h' => exact ⟨(hDn5 i h').vis, (hDn5 i h').srt⟩
     | down h' hb' => exact (hDn5 _ h').bel i (hb'.same hS5.ks)
  ·refine ptrK_of ⟨_, (hF.pl p hp1).own.ld1 20 rfl, ?_⟩
   have hkp := (hF.pl p hp1)
   refine (SortP_ok hF hT1.hid hkp.kids (fun j hj => (hT1.kids p hp1 j hj).1) (by have := hT1.len p hp1; omega) (fun c hc i e => by rw [hkp.tk c hc] at e; simp at e)).mono ?_
   rintro _ s55 ⟨⟨rfl, l', q1, q2, q3, q4⟩, q5⟩
   have key : ∀ {γ : Type} (g : Pl → γ), g { S1.pl p with ks := l' } = g (S1.pl p) → ∀ i, g (updF S1.pl p { S1.pl p with ks := l' } i) = g (S1.pl i) := fun g hg i => by
    by_cases e : i = p
    ·subst e; rw [updF_same]; exact hg
    ·rw [updF_ne _ _ e]
   have hall : ∀ j, j ∈ (S.pl p).ks → Dn T S1 j := fun j hj => hDn j (by
    have c : i = (S.pl p).ks.length := by simp at c; omega
    rw [c, List.take_length]; exact hj)
   have hsrt : Srt T l' := by
    have hmem : ∀ j, j ∈ l' → Vis T S1 j ∧ j ∈ S1.N := fun j hj => by
     have hj' := q1.mem_iff.1 hj
     exact ⟨(hall j (hks ▸ hj')).vis, (hT1.kids p hp1 j hj').1⟩
    have hnd' : l'.Nodup := q1.nodup_iff.2 (hT1.ndk p hp1)
    refine (List.Pairwise.and_mem.1 (q2.and hnd')).imp fun {x y} h => ?_
    obtain ⟨hx, hy, h1, h2⟩ := h
    obtain ⟨x1, x2⟩ := hmem x hx
    obtain ⟨y1, y2⟩ := hmem y hy
    have k2 := cfO_lt (fun i => (S1.pl i).n) y x
    have ex := hT1.hid x x2
    have ey := hT1.hid y y2
    have fx : (S1.pl x).n.fr = (T x).fr := by rw [← show (S1.pl x).n.tv = T x from x1]; rfl
    have fy : (S1.pl y).n.fr = (T y).fr := by rw [← show (S1.pl y).n.tv = T y from y1]; rfl
    simp only [ex, ey, fx, fy] at k2
    unfold ltT
    omega
   have hE6 : Ste T S1 { S1 with pl := updF S1.pl p { S1.pl p with ks := l' } } := by
    refine ⟨fun i hi => ?_, fun i hi => ?_, fun i hi h => ?_⟩
    ·unfold Vis
     rw [show ({ S1 with pl := updF S1.pl p { S1.pl p with ks := l' } } : FoD).pl i = updF S1.pl p { S1.pl p with ks := l' } i from rfl, key (·.n) rfl i]
     exact hi
    ·unfold RV Vis FoD.C
     rw [show ({ S1 with pl := updF S1.pl p { S1.pl p with ks := l' } } : FoD).pl i = updF S1.pl p { S1.pl p with ks := l' } i from rfl, key (·.n) rfl i, key (·.x) rfl i]
     exact hi
    ·show Srt T (updF S1.pl p { S1.pl p with ks := l' } i).ks
     by_cases e : i = p
     ·subst e; rw [updF_same]; exact hsrt
     ·rw [updF_ne _ _ e]; exact h
   have hS6 : SameT anc S1 { S1 with pl := updF S1.pl p { S1.pl p with ks := l' } } := by
    refine ⟨rfl, rfl, rfl, rfl, rfl, rfl, key (·.x) rfl, key (·.k) rfl, fun i => ?_, key (·.n.id) rfl, key (·.n.par) rfl, key (·.n.org) rfl, fun i hia => ?_⟩
    ·show (updF S1.pl p { S1.pl p with ks := l' } i).ks.Perm (S1.pl i).ks
     by_cases e : i = p
     ·subst e; rw [updF_same]; exact q1
     ·rw [updF_ne _ _ e]
    ·show (updF S1.pl p { S1.pl p with ks := l' } i).ks = (S1.pl i).ks
     rw [updF_ne]
     intro e
     exact (List.nodup_cons.1 hnd).1 (e ▸ hia)
   refine ⟨rfl, rfl, o3, _, hF.sortK hp1 q4 q5 q3, (hS.sub fun i hi => List.mem_cons_of_mem _ hi).trans hS6, K2.trans (hK.trans (.of q4 fun m hm => ⟨by rw [hkp.tk m hm]; exact (by decide : (5 : Nat) < 7), So.there' q3 m hm⟩)), hE.trans hE6 hN1, ?_, fun j hj => (hall j hj).same hT1 (hN1.symm ▸ (hT.kids p hpN j hj).1) hS6 hE6⟩
   show Srt T (updF S1.pl p { S1.pl p with ks := l' } p).ks
   rw [updF_same]; exact hsrt
end
end Go.Eng.S

namespace Go.Eng.S
open Go Go.Eng Go.Proofs
set_option linter.constructorNameAsVariable false
noncomputable section
attribute [local irreducible] bsel
def tagL (o : Nat → Tg) (L : List Nat) (t : Tg) : Nat → Tg := fun c => if c ∈ L then t else o c
theorem Fo.tagL {s0 s : St} {f : Nat} {B : Int → Nat} {o : Nat → Tg} {S : FoD} (h : Fo s0 s f B o S) {t : Tg} : ∀ {L : List Nat}, (∀ c, c ∈ L → s.h.get c = none) → Fo s0 s f B (tagL o L t) S
 | [], _ => by
  have : Go.Eng.S.tagL o [] t = o := by funext c; simp [Go.Eng.S.tagL]
  rw [this]; exact h
 | a :: L, hL => by
  have h1 := (h.tagL (t := t) (L := L) fun c hc => hL c (List.mem_cons_of_mem _ hc)).tag (hL a (List.mem_cons_self ..)) t
  have : Go.Eng.S.tagL o (a :: L) t = updF (Go.Eng.S.tagL o L t) a t := by
   funext c
   by_cases e : c = a
   ·subst e; rw [updF_same]; simp [Go.Eng.S.tagL]
   ·rw [updF_ne _ _ e]; simp [Go.Eng.S.tagL, e]
  rw [this]; exact h1
theorem Fo.addPl {s0 s s' : St} {f : Nat} {B : Int → Nat} {o : Nat → Tg} {S : FoD} (h : Fo s0 s f B o S) {i : Int} {b : Nat} {p : Pl} (hi : i ∉ S.N) (ho : Own s b p.cells) (hx : p.x.At s) (hk : p.k = .nilslice) (hks : p.ks = []) (hb : o b = (4, i))
  (tx : ∀ c, c ∈ blkOf p.x.x ++ blkOf p.x.y ++ blkOf p.x.z → (o c).1 = 6) (hm : MapS KU.f s' S.mb (mset (S.N.map fun i => (i, .ptr (B i) 0)) i (.ptr b 0))) (hw : MapW s S.mb s') (hr : S.rts = .nilslice ∧ S.rl = []) (hA : ∀ j, j ∈ S.N → (S.pl j).k = .nilslice ∧ (S.pl j).ks = []) :
  Fo s0 s' f (updF B i b) o { S with N := S.N ++ [i], pl := updF S.pl i p } := by
 have hf := hw.1
 have hM : ∀ m, m ∈ [S.mb] → o m = (1, 0) := fun m hm => by
  have : m = S.mb := by simpa using hm
  rw [this]; exact h.tm
 have nt : ∀ {c : Nat}, o c ≠ (1, 0) → c ∉ [S.mb] := fun hc hm => hc (hM _ hm)
 have hne : ∀ j, j ∈ S.N → j ≠ i := fun j hj e => hi (e ▸ hj)
 refine ⟨?_, h.own.fwd hf (nt (by rw [h.tf]; simp)), ?_, h.ids.beside hf fun m hm hc => by have := hM m hm; rw [h.ti m hc] at this; simp at this, ?_, h.tf, h.tm, h.ti, h.tr, fun j hj => ?_, h.new, h.fwd.step hf (fun c hc => h.new c (by rw [hM c hc]; exact (by decide : (1 : Nat) < 7))), hw.fr h.fr h.map.there⟩
 ·rw [List.nodup_append]
  exact ⟨h.nd, by simp, fun a ha c hc => by
   have : c = i := by simpa using hc
   rw [this]; exact hne a ha⟩
 ·have e : mset (S.N.map fun i => (i, AV.ptr (B i) 0)) i (.ptr b 0) = (S.N ++ [i]).map fun j => (j, .ptr (updF B i b j) 0) := by
   rw [mset_none (by rw [mget_ids, if_neg hi]), List.map_append]
   congr 1
   ·exact List.map_congr_left fun j hj => by rw [updF_ne _ _ (hne j hj)]
   ·simp [updF_same]
  rw [e] at hm
  exact hm
 ·show So _ s' S.rts S.rl
  rw [hr.1, hr.2]; exact .nil _ _
 ·rcases List.mem_append.1 hj with hj | hj
  ·have hp := h.pl j hj
   obtain ⟨a1, a2⟩ := hA j hj
   simp only [updF_ne _ _ (hne j hj)]
   have := hp.fwd hf fun m hm => by rw [hM m hm]; simp
   exact ⟨by rw [updF_ne _ _ (hne j hj)]; exact this.own, this.at', by rw [a1, a2]; exact .nil _ _, by rw [updF_ne _ _ (hne j hj)]; exact this.tb, this.tk, this.tx, this.ty, this.tz⟩
  ·have : j = i := by simpa using hj
   subst this
   simp only [updF_same]
   have ne6 : ∀ {c : Nat}, (o c).1 = 6 → c ∉ [S.mb] := fun hc hm => by rw [hM _ hm] at hc; simp at hc
   refine ⟨by rw [updF_same]; exact ho.fwd hf (nt (by rw [hb]; simp)), ⟨Sl.fwdM hx.x hf fun m hm hc => ne6 (tx m (by simp [hc])) hm, Sl.fwdM hx.y hf fun m hm hc => ne6 (tx m (by simp [hc])) hm, Sl.fwdM hx.z hf fun m hm hc => ne6 (tx m (by simp [hc])) hm⟩, by rw [hk, hks]; exact .nil _ _, by rw [updF_same]; exact hb, by rw [hk]; simp [blkOf],
    fun c hc => tx c (by simp [hc]), fun c hc => tx c (by simp [hc]), fun c hc => tx c (by simp [hc])⟩
theorem Fo.moveIds {s0 s s' : St} {f : Nat} {B : Int → Nat} {o : Nat → Tg} {S : FoD} (h : Fo s0 s f B o S) {M : List Nat} {v : AV} {il : List Int} (hf : Frw M s s') (hM : ∀ m, m ∈ M → o m = (2, 0) ∨ o m = (0, 0)) (hown : Own s' f [.map S.mb, v, S.rts]) (hso : So linkE s' v il) (hv : ∀ c, c ∈ blkOf v → o c = (2, 0)) (hfr : Fr s') :
  Fo s0 s' f B o { S with ids := v, il := il } := by
 have nt : ∀ {c : Nat}, o c ≠ (2, 0) → o c ≠ (0, 0) → c ∉ M := fun h1 h2 hm => (hM _ hm).elim h1 h2
 exact ⟨h.nd, hown, h.map.fwd hf (nt (by rw [h.tm]; simp) (by rw [h.tm]; simp)), hso, h.rts.beside hf fun m hm hc => by rcases hM m hm with e | e <;> rw [h.tr m hc] at e <;> simp at e, h.tf, h.tm, hv, h.tr,
  fun i hi => (h.pl i hi).fwd hf fun m hm => by rcases hM m hm with e | e <;> rw [e] <;> simp, h.new, h.fwd.step hf (fun c hc => h.new c (by rcases hM c hc with e | e <;> rw [e] <;> simp)), hfr⟩
theorem Fo.moveRts {s0 s s' : St} {f : Nat} {B : Int → Nat} {o : Nat → Tg} {S : FoD} (h : Fo s0 s f B o S) {M : List Nat} {v : AV} {rl : List Int} (hf : Frw M s s') (hM : ∀ m, m ∈ M → o m = (3, 0) ∨ o m = (0, 0)) (hown : Own s' f [.map S.mb, S.ids, v]) (hso : So (ptE B) s' v rl) (hv : ∀ c, c ∈ blkOf v → o c = (3, 0)) (hfr : Fr s') :
  Fo s0 s' f B o { S with rts := v, rl := rl } := by
 have nt : ∀ {c : Nat}, o c ≠ (3, 0) → o c ≠ (0, 0) → c ∉ M := fun h1 h2 hm => (hM _ hm).elim h1 h2
 exact ⟨h.nd, hown, h.map.fwd hf (nt (by rw [h.tm]; simp) (by rw [h.tm]; simp)), h.ids.beside hf fun m hm hc => by rcases hM m hm with e | e <;> rw [h.ti m hc] at e <;> simp at e, hso, h.tf, h.tm, h.ti, hv,
  fun i hi => (h.pl i hi).fwd hf fun m hm => by rcases hM m hm with e | e <;> rw [e] <;> simp, h.new, h.fwd.step hf (fun c hc => h.new c (by rcases hM c hc with e | e <;> rw [e] <;> simp)), hfr⟩
theorem Fo.moveKid {s0 s s' : St} {f : Nat} {B : Int → Nat} {o : Nat → Tg} {S : FoD} (h : Fo s0 s f B o S) {p : Int} (hp : p ∈ S.N) {M : List Nat} {v : AV} {ks : List Int} (hf : Frw M s s') (hM : ∀ m, m ∈ M → o m = (5, p) ∨ o m = (4, p)) (hown : Own s' (B p) ({ S.pl p with k := v, ks := ks } : Pl).cells) (hso : So (ptE B) s' v ks) (hv : ∀ c, c ∈ blkOf v → o c = (5, p)) (hfr : Fr s') :
  Fo s0 s' f B o { S with pl := updF S.pl p { S.pl p with k := v, ks := ks } } := by
 have nt : ∀ {c : Nat}, o c ≠ (5, p) → o c ≠ (4, p) → c ∉ M := fun h1 h2 hm => (hM _ hm).elim h1 h2
 have hP := h.pl p hp
 refine ⟨h.nd, h.own.fwd hf (nt (by rw [h.tf]; simp) (by rw [h.tf]; simp)), h.map.fwd hf (nt (by rw [h.tm]; simp) (by rw [h.tm]; simp)), h.ids.beside hf fun m hm hc => by rcases hM m hm with e | e <;> rw [h.ti m hc] at e <;> simp at e,
  h.rts.beside hf fun m hm hc => by rcases hM m hm with e | e <;> rw [h.tr m hc] at e <;> simp at e, h.tf, h.tm, h.ti, h.tr, fun i hi => ?_, h.new, h.fwd.step hf (fun c hc => h.new c (by rcases hM c hc with e | e <;> rw [e] <;> simp)), hfr⟩
 by_cases e : i = p
 ·subst e
  simp only [updF_same]
  have n6 : ∀ {c : Nat}, (o c).1 = 6 → c ∉ M := fun h1 hm => by rcases hM _ hm with e | e <;> rw [e] at h1 <;> simp at h1
  exact ⟨hown, ⟨Sl.fwdM hP.at'.x hf fun m hm hc => n6 (hP.tx m hc) hm, Sl.fwdM hP.at'.y hf fun m hm hc => n6 (hP.ty m hc) hm, Sl.fwdM hP.at'.z hf fun m hm hc => n6 (hP.tz m hc) hm⟩, hso, hP.tb, hv, hP.tx, hP.ty, hP.tz⟩
 ·simp only [updF_ne _ _ e]
  refine (h.pl i hi).fwd hf fun m hm => ?_
  have hne : ∀ k : Nat, ((k, p) : Tg) ≠ (k, i) := fun k h => e (congrArg Prod.snd h).symm
  rcases hM m hm with e' | e' <;> rw [e'] <;> simp <;> exact fun h => e h.symm
theorem wr_own1 {s : St} {b : Nat} {cs : List AV} (h : Own s b cs) (hfr : Fr s) (o : Nat) (v : AV) (hv : ones [v] = true) (ho : o + 1 ≤ cs.length) :
  ∃ s', wrN s (.ptr b o) [v] = some s' ∧ Own s' b (splice cs o [v]) ∧ Frw [b] s s' ∧ Fr s' := by
 obtain ⟨s', w1, o1, f1, n1, _, c1⟩ := h.wrN o [v] hv (by simpa using ho)
 exact ⟨s', w1, o1, f1, Own.fr h hfr n1 c1⟩
theorem ones_so {α : Type} {E : Enc α} {s : St} {x : AV} {l : List α} (h : So E s x l) : ones [x] = true := by
 rw [h.sl.onesx]; rfl
theorem Fo.addId {s0 s : St} {f : Nat} {B : Int → Nat} {o : Nat → Tg} {S : FoD} (h : Fo s0 s f B o S) {m : Nat} {i : Int} (hR : Rd s m 0 [.int .u64 i]) (hl : S.il.length ≤ 100000) :
  ∃ v s1, appendX D s T.sl_api_SpanID T.sl_api_SpanID S.ids (.slice m 0 1 (.exact 1)) = some (v, s1) ∧ oneK v (∃ s2, wrN s1 (.ptr f 1) [v] = some s2 ∧ ∃ o', Fo s0 s2 f B o' { S with ids := v, il := S.il ++ [i] }) := by
 have hg : s.h.get s.nx = none := h.fr _ (Nat.le_refl _)
 have h1 := h.tag hg (2, 0)
 obtain ⟨v, s1, g1, g2, g3, g4, g5, g6⟩ := h.ids.append' (D := D) (t := T.sl_api_SpanID) ty.sl_api_SpanID rfl ty.api_SpanID rfl rfl rfl (a := i) (e := [.int .u64 i]) rfl hR rfl (show (S.il.length + 1 + (S.il.length + 1) / 4 + 600) * 8 ≤ pow48 by unfold pow48; omega) (by unfold pow48; omega) h.fr
 have hM : ∀ m, m ∈ blkOf S.ids → (updF o s.nx (2, 0)) m = (2, 0) := h1.ti
 have o1 := h1.own.fwd g3 (fun hm => by have := hM f hm; rw [h1.tf] at this; simp at this)
 obtain ⟨s2, w2, o2, f2, fr2⟩ := wr_own1 o1 g5 1 v (ones_so g2) (by simp)
 refine ⟨v, s1, g1, g2.sl.one ⟨s2, w2, _, h1.moveIds (M := blkOf S.ids ++ [f]) ((g3.mono fun x hx => List.mem_append_left _ hx).trans (f2.mono fun x hx => List.mem_append_right _ hx)) (fun m hm => ?_) o2 (g2.beside f2 fun c hc hc' => ?_) (fun c hc => ?_) fr2⟩⟩
 ·rcases List.mem_append.1 hm with hm | hm
  ·exact .inl (hM m hm)
  ·have : m = f := by simpa using hm
   rw [this]; exact .inr h1.tf
 ·rw [g4] at hc'
  have e1 : c = f := by simpa using hc
  have e2 : c = s.nx := by simpa using hc'
  have := h.own.there
  rw [← e1, e2] at this
  exact this hg
 ·rw [g4] at hc
  have e2 : c = s.nx := by simpa using hc
  rw [e2, updF_same]
theorem Fo.addRt {s0 s : St} {f : Nat} {B : Int → Nat} {o : Nat → Tg} {S : FoD} (h : Fo s0 s f B o S) {m : Nat} {i : Int} (hR : Rd s m 0 [.ptr (B i) 0]) (hl : S.rl.length ≤ 100000) :
  ∃ v s1, appendX D s T.sl_p_forest_place T.sl_p_forest_place S.rts (.slice m 0 1 (.exact 1)) = some (v, s1) ∧ oneK v (∃ s2, wrN s1 (.ptr f 2) [v] = some s2 ∧ ∃ o', Fo s0 s2 f B o' { S with rts := v, rl := S.rl ++ [i] }) := by
 have hg : s.h.get s.nx = none := h.fr _ (Nat.le_refl _)
 have h1 := h.tag hg (3, 0)
 obtain ⟨v, s1, g1, g2, g3, g4, g5, g6⟩ := h.rts.append' (D := D) (t := T.sl_p_forest_place) ty.sl_p_forest_place rfl ty.p_forest_place rfl rfl rfl (a := i) (e := [.ptr (B i) 0]) rfl hR rfl (show (S.rl.length + 1 + (S.rl.length + 1) / 4 + 600) * 8 ≤ pow48 by unfold pow48; omega) (by unfold pow48; omega) h.fr
 have hM : ∀ m, m ∈ blkOf S.rts → (updF o s.nx (3, 0)) m = (3, 0) := h1.tr
 have o1 := h1.own.fwd g3 (fun hm => by have := hM f hm; rw [h1.tf] at this; simp at this)
 obtain ⟨s2, w2, o2, f2, fr2⟩ := wr_own1 o1 g5 2 v (ones_so g2) (by simp)
 refine ⟨v, s1, g1, g2.sl.one ⟨s2, w2, _, h1.moveRts (M := blkOf S.rts ++ [f]) ((g3.mono fun x hx => List.mem_append_left _ hx).trans (f2.mono fun x hx => List.mem_append_right _ hx)) (fun m hm => ?_) o2 (g2.beside f2 fun c hc hc' => ?_) (fun c hc => ?_) fr2⟩⟩
 ·rcases List.mem_append.1 hm with hm | hm
  ·exact .inl (hM m hm)
  ·have : m = f := by simpa using hm
   rw [this]; exact .inr h1.tf
 ·rw [g4] at hc'
  have e1 : c = f := by simpa using hc
  have e2 : c = s.nx := by simpa using hc'
  have := h.own.there
  rw [← e1, e2] at this
  exact this hg
 ·rw [g4] at hc
  have e2 : c = s.nx := by simpa using hc
  rw [e2, updF_same]
theorem Fo.addKid {s0 s : St} {f : Nat} {B : Int → Nat} {o : Nat → Tg} {S : FoD} (h : Fo s0 s f B o S) {p : Int} (hp : p ∈ S.N) {m : Nat} {i : Int} (hR : Rd s m 0 [.ptr (B i) 0]) (hl : (S.pl p).ks.length ≤ 100000) :
  ∃ v s1, appendX D s T.sl_p_forest_place T.sl_p_forest_place (S.pl p).k (.slice m 0 1 (.exact 1)) = some (v, s1) ∧ oneK v (∃ s2, wrN s1 (.ptr (B p) 20) [v] = some s2 ∧ ∃ o', Fo s0 s2 f B o' { S with pl := updF S.pl p { S.pl p with k := v, ks := (S.pl p).ks ++ [i] } }) := by
 have hg : s.h.get s.nx = none := h.fr _ (Nat.le_refl _)
 have h1 := h.tag hg (5, p)
 have hP := h1.pl p hp
 obtain ⟨v, s1, g1, g2, g3, g4, g5, g6⟩ := hP.kids.append' (D := D) (t := T.sl_p_forest_place) ty.sl_p_forest_place rfl ty.p_forest_place rfl rfl rfl (a := i) (e := [.ptr (B i) 0]) rfl hR rfl (show ((S.pl p).ks.length + 1 + ((S.pl p).ks.length + 1) / 4 + 600) * 8 ≤ pow48 by unfold pow48; omega) (by unfold pow48; omega) h.fr
 have o1 := hP.own.fwd g3 (fun hm => by have := hP.tk _ hm; rw [hP.tb] at this; simp at this)
 obtain ⟨s2, w2, o2, f2, fr2⟩ := wr_own1 o1 g5 20 v (ones_so g2) (by simp [Pl.cells, SpX.cells, Nd.cells])
 refine ⟨v, s1, g1, g2.sl.one ⟨s2, w2, _, h1.moveKid hp (M := blkOf (S.pl p).k ++ [B p]) ((g3.mono fun x hx => List.mem_append_left _ hx).trans (f2.mono fun x hx => List.mem_append_right _ hx)) (fun m hm => ?_) o2 (g2.beside f2 fun c hc hc' => ?_) (fun c hc => ?_) fr2⟩⟩
 ·rcases List.mem_append.1 hm with hm | hm
  ·exact .inl (hP.tk m hm)
  ·have : m = B p := by simpa using hm
   rw [this]; exact .inr hP.tb
 ·rw [g4] at hc'
  have e1 : c = B p := by simpa using hc
  have e2 : c = s.nx := by simpa using hc'
  have := (h.pl p hp).own.there
  rw [← e1, e2] at this
  exact this hg
 ·rw [g4] at hc
  have e2 : c = s.nx := by simpa using hc
  rw [e2, updF_same]
end
end Go.Eng.S

namespace Go.Eng.S
open Go Go.Eng Go.Proofs
set_option linter.constructorNameAsVariable false
noncomputable section
attribute [local irreducible] bsel
set_option maxHeartbeats 1000000 in
set_option maxRecDepth 10000 in
theorem Settle_ok {T : Int → Tv} {s0 s : St} {f : Nat} {B : Int → Nat} {o : Nat → Tg} {S : FoD} (h : Fo s0 s f B o S) (hT : TreeI S) (hr : ∀ r, r ∈ S.rl → r ∈ S.N ∧ (S.pl r).n.org ≠ 0) (hl : S.rl.length < 1000000) (hTv : TvI T S) (hTr : ∀ r, r ∈ S.rl → T r = rootT S.C r) (hRV : ∀ i, i ∈ S.N → RV T S i) :
  CallsA P F.p_forest_Forest_settle [.ptr f 0] s fun v s' => v = .tuple [] ∧ ∃ o' S', Fo s0 s' f B o' S' ∧ SameT [] S S' ∧ ∀ r, r ∈ S.rl → Dn T S' r := by
 refine vc.p_forest_Forest_settle_ok ?_
 intro m1 s2 n2
 obtain ⟨s3, w3, o3, f3, r3⟩ := n2.put [clo m1] rfl rfl
 refine ⟨s3, w3, ?_⟩
 have h3 : Fo s0 s3 f B (updF o m1 (8, 0)) S := (h.tag n2.gone (8, 0)).ext f3 r3
 have t1 : (updF o m1 (8, 0)) m1 = (8, 0) := updF_same _ _ _
 generalize updF o m1 (8, 0) = o1 at h3 t1
 refine ptrK_of ⟨_, h3.own.ld1 2 rfl, h3.rts.sl.slen ?_⟩
 refine ⟨fun n s' m => ∃ (i : Nat) (o2 : Nat → Tg) (S1 : FoD), n = i ∧ m = S.rl.length - i ∧ i ≤ S.rl.length ∧ Fo s0 s' f B o2 S1 ∧ SameT [] S S1 ∧ Kp o1 s3 o2 s' ∧ Ste T S S1 ∧ ∀ r, r ∈ S.rl.take i → Dn T S1 r,
  ⟨_, 0, o1, S, rfl, rfl, by omega, h3, .refl _ _, .refl _ _, .refl _ _, by simp⟩, ?_⟩
 rintro _ s11 _ ⟨i, o2, S1, rfl, rfl, hi, hF, hS, hK, hE, hDn⟩
 refine bsel_of (fun c => ?_) fun c => ⟨rfl, o2, S1, hF, hS, fun r hr => hDn r (by
  have c : i = S.rl.length := by simp at c; omega
  rw [c, List.take_length]; exact hr)⟩
 have c : i < S.rl.length := by simpa using c
 have hrs : Sl (ptE B) s11 S.rts S.rl := by
  have := hF.rts.sl
  rw [hS.rts, hS.rl] at this
  exact this
 have hjm : S.rl[i] ∈ S.rl := List.getElem_mem _
 have htk : S.rl.take (i + 1) = S.rl.take i ++ [S.rl[i]] := List.take_succ_eq_append_getElem c
 refine hrs.ixs rfl rfl c fun b o' hr' => ⟨_, hr'.ld1 0 rfl, ?_⟩
 generalize S.rl[i] = p at hjm htk
 have hT1 := hT.same hS
 obtain ⟨k1, k2⟩ := hr p hjm
 have hp1 : p ∈ S1.N := hS.N.symm ▸ k1
 obtain ⟨s21, w21, hF21, K21⟩ := hF.wrNode hp1 16 [.int .u64 (S1.pl p).n.id] { (S1.pl p).n with tree := (S1.pl p).n.id } rfl (by simp) rfl
 refine ptrK_of ⟨_, (hF.pl p hp1).own.ld1 13 rfl, ptrK_of ⟨s21, w21, fun s22 b22 => ?_⟩⟩
 have hS21 := hS.trans (SameT.node (anc := []) (S := S1) (j := p) (n' := { (S1.pl p).n with tree := (S1.pl p).n.id }) rfl rfl rfl)
 have hF22 := hF21.ext b22.fwd b22.fr
 have K22 := (hK.trans K21).trans (.ext b22.fwd)
 obtain ⟨S4, hF4, hS4, hpl⟩ : ∃ S4 : FoD, Fo s0 s22 f B o2 S4 ∧ SameT [] S S4 ∧ ∀ i, S4.pl i = if i = p then { S1.pl p with n := { (S1.pl p).n with tree := (S1.pl p).n.id } } else S1.pl i := ⟨_, hF22, hS21, fun i => by
  by_cases e : i = p
  ·subst e; simp only [updF_same, if_true]
  ·simp only [updF_ne _ _ e, if_neg e]⟩
 have hN1 : S1.N = S.N := hS.N
 have hS14 : ∀ i, (S4.pl i).ks = (S1.pl i).ks := fun i => by
  rw [hpl]
  split
  ·rename_i e; rw [e]
  ·rfl
 have hC14 : S4.C = S1.C := hS4.C.trans hS.C.symm
 have hv4 : Vis T S4 p := by
  unfold Vis
  rw [hpl, if_pos rfl, hTr p hjm]
  have e0 : (S1.pl p).n.id = p := hT1.hid p hp1
  show (⟨_, _, _, _⟩ : Tv) = _
  rw [e0]
  rcases hE.rv p (hRV p k1) with ⟨h0, h1, h2⟩ | h1
  ·rw [hS.C] at h1 h2
   show (⟨p, (S1.pl p).n.depth, (S1.pl p).n.fr, (S1.pl p).n.till⟩ : Tv) = _
   rw [h0, h1, h2]; rfl
  ·have h1 : (S1.pl p).n.tv = T p := h1
   rw [hTr p hjm] at h1
   have a1 := congrArg Tv.depth h1
   have a2 := congrArg Tv.fr h1
   have a3 := congrArg Tv.till h1
   simp only [Nd.tv] at a1 a2 a3
   show (⟨p, (S1.pl p).n.depth, (S1.pl p).n.fr, (S1.pl p).n.till⟩ : Tv) = _
   rw [a1, a2, a3]; rfl
 have hE4 : Ste T S1 S4 := by
  refine ⟨fun i hi => ?_, fun i hi => ?_, fun i _ hi => by rw [hS14]; exact hi⟩
  ·by_cases e : i = p
   ·rw [e]; exact hv4
   ·unfold Vis; rw [hpl, if_neg e]; exact hi
  ·by_cases e : i = p
   ·rw [e]; exact .inr hv4
   ·unfold RV Vis; rw [hpl, if_neg e, hC14]; exact hi
 have hE04 := hE.trans hE4 hN1
 have hS14' : SameT [] S1 S4 := ⟨hS4.mb.trans hS.mb.symm, hS4.ids.trans hS.ids.symm, hS4.il.trans hS.il.symm, hS4.rts.trans hS.rts.symm, hS4.rl.trans hS.rl.symm, hS4.N.trans hS.N.symm, fun i => (hS4.x i).trans (hS.x i).symm, fun i => (hS4.k i).trans (hS.k i).symm, fun i => by rw [hS14], fun i => (hS4.id i).trans (hS.id i).symm, fun i => (hS4.par i).trans (hS.par i).symm, fun i => (hS4.org i).trans (hS.org i).symm, fun i _ => hS14 i⟩
 have hT4 := hT.same hS4
 have hp4 : p ∈ S4.N := hS4.N.symm ▸ k1
 have oc : Own s22 m1 [clo m1] := K22.own o3 (by rw [t1]; decide)
 have tc : o2 m1 = (8, 0) := (hK.tag m1 o3.there).trans t1
 refine ⟨clo m1, oc.ld1 0 rfl, ptrK_of ⟨_, _, _, _, _, _, _, (hF4.pl p hp4).own.ldN 13 7 (by simp [Pl.cells, SpX.cells, Nd.cells]), callK_clo ?_⟩⟩
 refine (Down_ok S4.N.length [] p s22 o2 S4 (S4.pl p).n hF4 tc oc hT4 (show (S4.pl p).n.org ≠ 0 by rw [hS4.org]; exact k2) (by simp) (fun i hi => by
  have : i = p := by simpa using hi
  rw [this]; exact hp4) (by simp) (hTv.same hS4) hv4 (fun i hi => hE04.rv i (hRV i (hS4.N ▸ hi)))).mono ?_
 rintro _ s34 ⟨rfl, o5, S5, hF5, hS5, K5, hE5, hsrt5, hDn5⟩
 refine ⟨rfl, S.rl.length - (i + 1), by omega, i + 1, o5, S5, wrap_i64 (by omega) (by omega), rfl, by omega, hF5, hS4.trans hS5, K22.trans K5, hE04.trans hE5 hS4.N, fun q hq => ?_⟩
 rw [htk] at hq
 rcases List.mem_append.1 hq with hq | hq
 ·have hqS : q ∈ S.N := (hr q (List.mem_of_mem_take hq)).1
  exact ((hDn q hq).same hT1 (hN1.symm ▸ hqS) hS14' hE4).same hT4 (hS4.N.symm ▸ hqS) hS5 hE5
 ·have : q = p := by simpa using hq
  subst this
  refine ⟨hE5.vis q hv4, hsrt5, fun i hb => ?_⟩
  have hb4 : Bel S4 q i := hb.same fun i => (hS5.ks i).symm
  cases hb4 with
  | kid h' => exact ⟨(hDn5 i h').vis, (hDn5 i h').srt⟩
  | down h' hb' => exact (hDn5 _ h').bel i (hb'.same hS5.ks)
end
end Go.Eng.S

namespace Go.Eng.S
open Go Go.Eng Go.Proofs
set_option linter.constructorNameAsVariable false
noncomputable section
attribute [local irreducible] bsel
open Classical
theorem oneK_ptr {b o : Nat} {R : Prop} (h : R) : oneK (.ptr b o) R := h
theorem oneK_mono {v : AV} {R R' : Prop} (h : oneK v R) (hr : R → R') : oneK v R' := by
 unfold oneK at *
 split at h
 ·exact h.elim
 ·exact hr h
def pl0 : Pl := ⟨⟨⟨0, 0, 0, 0, [], ⟨#[]⟩, ⟨#[]⟩, 0, 0, 0, 0, [], []⟩, .nilslice, .nilslice, .nilslice⟩, ⟨0, 0, 0, 0, 0, 0, 0⟩, .nilslice, []⟩
def IniP (S : FoD) (c : SpC) : Prop := ∃ x' : SpX, x'.c = c ∧ S.pl c.id = ⟨x', ⟨c.id, 0, 0, 0, 0, c.t0, c.t1⟩, .nilslice, []⟩
structure Lp1 (cs : List SpC) (i : Nat) (S : FoD) : Prop where
 N : S.N = (cs.take i).map SpC.id
 il : S.il = S.N
 rts : S.rts = .nilslice
 rl : S.rl = []
 ini : ∀ c, c ∈ cs.take i → IniP S c
structure Dis (S0 : FoD) (i : Nat) (S : FoD) : Prop where
 mb : S.mb = S0.mb
 ids : S.ids = S0.ids
 il : S.il = S0.il
 N : S.N = S0.N
 x : ∀ j, (S.pl j).x = (S0.pl j).x
 id : ∀ j, (S.pl j).n.id = (S0.pl j).n.id
 org : ∀ j, (S.pl j).n.org = (S0.pl j).n.org
 tv : ∀ j, (S.pl j).n.tv = (S0.pl j).n.tv
 par : ∀ j, j ∈ S0.N → (S.pl j).n.par = if (S0.pl j).n.org = 0 ∧ j ∈ S0.il.take i then (S0.C j).par else 0
 ks : ∀ j, j ∈ S0.N → (S.pl j).ks = (S0.il.take i).filter fun t => decide ((S0.pl t).n.org = 0 ∧ (S0.C t).par = j)
 rl : S.rl = (S0.il.take i).filter fun t => decide ((S0.pl t).n.org ≠ 0)
theorem take_one {l : List Int} {i : Nat} {j : Int} (hi : i < l.length) (hj : l[i] = j) : l.take (i + 1) = l.take i ++ [j] := by rw [List.take_succ_eq_append_getElem hi, hj]
theorem Dis.kid {R S : FoD} {i : Nat} {j p : Int} {v : AV} (h : Dis R i S) (hi : i < R.il.length) (hj : R.il[i] = j) (ho : (R.pl j).n.org = 0) (hp : (R.C j).par = p) (hnd : R.il.Nodup) :
  Dis R (i + 1) { S with pl := updF (updF S.pl j { S.pl j with n := { (S.pl j).n with par := p } }) p { updF S.pl j { S.pl j with n := { (S.pl j).n with par := p } } p with k := v, ks := (updF S.pl j { S.pl j with n := { (S.pl j).n with par := p } } p).ks ++ [j] } } := by
 have key : ∀ {γ : Type} (g : Pl → γ), (∀ (q : Pl) (a : Int) (k : AV) (ks : List Int), g { q with n := { q.n with par := a } } = g q ∧ g { q with k := k, ks := ks } = g q) → ∀ t, g (updF (updF S.pl j { S.pl j with n := { (S.pl j).n with par := p } }) p { updF S.pl j { S.pl j with n := { (S.pl j).n with par := p } } p with k := v, ks := (updF S.pl j { S.pl j with n := { (S.pl j).n with par := p } } p).ks ++ [j] } t) = g (S.pl t) := fun g hg t => by
  by_cases e : t = p
  ·subst e
   rw [updF_same, (hg _ 0 _ _).2]
   by_cases e2 : t = j
   ·subst e2; rw [updF_same, (hg _ _ .nilslice []).1]
   ·rw [updF_ne _ _ e2]
  ·rw [updF_ne _ _ e]
   by_cases e2 : t = j
   ·subst e2; rw [updF_same, (hg _ _ .nilslice []).1]
   ·rw [updF_ne _ _ e2]
 have htk := take_one hi hj
 refine ⟨h.mb, h.ids, h.il, h.N, fun t => (key (·.x) (fun _ _ _ _ => ⟨rfl, rfl⟩) t).trans (h.x t), fun t => (key (·.n.id) (fun _ _ _ _ => ⟨rfl, rfl⟩) t).trans (h.id t), fun t => (key (·.n.org) (fun _ _ _ _ => ⟨rfl, rfl⟩) t).trans (h.org t), fun t => (key (·.n.tv) (fun _ _ _ _ => ⟨rfl, rfl⟩) t).trans (h.tv t), fun t ht => ?_, fun t ht => ?_, ?_⟩
 ·have e : (updF (updF S.pl j { S.pl j with n := { (S.pl j).n with par := p } }) p { updF S.pl j { S.pl j with n := { (S.pl j).n with par := p } } p with k := v, ks := (updF S.pl j { S.pl j with n := { (S.pl j).n with par := p } } p).ks ++ [j] } t).n.par = if t = j then p else (S.pl t).n.par := by
   by_cases e : t = p
   ·subst e
    rw [updF_same]
    by_cases e2 : t = j
    ·subst e2; simp only [updF_same, if_true]
    ·simp only [updF_ne _ _ e2, if_neg e2]
   ·rw [updF_ne _ _ e]
    by_cases e2 : t = j
    ·subst e2; simp only [updF_same, if_true]
    ·simp only [updF_ne _ _ e2, if_neg e2]
  rw [show ({ S with pl := _ } : FoD).pl t = _ from rfl, e, htk, h.par t ht]
  by_cases e2 : t = j
  ·subst e2
   rw [if_pos rfl, if_pos ⟨ho, by simp⟩, hp]
  ·rw [if_neg e2]
   simp [e2]
 ·have e : (updF (updF S.pl j { S.pl j with n := { (S.pl j).n with par := p } }) p { updF S.pl j { S.pl j with n := { (S.pl j).n with par := p } } p with k := v, ks := (updF S.pl j { S.pl j with n := { (S.pl j).n with par := p } } p).ks ++ [j] } t).ks = if t = p then (S.pl t).ks ++ [j] else (S.pl t).ks := by
   by_cases e : t = p
   ·subst e
    rw [updF_same]
    by_cases e2 : t = j
    ·subst e2; simp only [updF_same, if_true]
    ·simp only [updF_ne _ _ e2, if_true]
   ·rw [updF_ne _ _ e, if_neg e]
    by_cases e2 : t = j
    ·subst e2; rw [updF_same]
    ·rw [updF_ne _ _ e2]
  rw [show ({ S with pl := _ } : FoD).pl t = _ from rfl, e, htk, List.filter_append, h.ks t ht]
  by_cases e : t = p
  ·subst e
   simp [ho, hp]
  ·have : ¬ p = t := fun h => e h.symm
   simp [ho, hp, e, this]
 ·show S.rl = _
  rw [h.rl, htk, List.filter_append]
  simp [ho]
theorem Dis.root {R S : FoD} {i : Nat} {j : Int} {v : AV} (h : Dis R i S) (hi : i < R.il.length) (hj : R.il[i] = j) (ho : (R.pl j).n.org ≠ 0) : Dis R (i + 1) { S with rts := v, rl := S.rl ++ [j] } := by
 have htk := take_one hi hj
 refine ⟨h.mb, h.ids, h.il, h.N, h.x, h.id, h.org, h.tv, fun t ht => ?_, fun t ht => ?_, ?_⟩
 ·rw [show ({ S with rts := v, rl := S.rl ++ [j] } : FoD).pl t = S.pl t from rfl, h.par t ht, htk]
  by_cases e : t = j
  ·subst e; simp [ho]
  ·simp [e]
 ·rw [show ({ S with rts := v, rl := S.rl ++ [j] } : FoD).pl t = S.pl t from rfl, h.ks t ht, htk, List.filter_append]
  simp [ho]
 ·show S.rl ++ [j] = _
  rw [h.rl, htk, List.filter_append]
  simp [ho]
structure ForS (cs : List SpC) (S : FoD) : Prop where
 N : S.N = cs.map SpC.id
 C : ∀ c, c ∈ cs → S.C c.id = c
 id : ∀ i, i ∈ S.N → (S.pl i).n.id = i
 org : ∀ i, i ∈ S.N → (S.pl i).n.org = orgC S.C S.N i
 par : ∀ i, i ∈ S.N → (S.pl i).n.par = if (S.pl i).n.org = 0 then (S.C i).par else 0
 kids : TreeI S
 rts : ∀ r, r ∈ S.rl ↔ r ∈ S.N ∧ (S.pl r).n.org ≠ 0
 tv : ∀ i, i ∈ S.N → (S.pl i).n.tv = tvOf S.C (orgC S.C S.N) S.N i
 srt : ∀ i, i ∈ S.N → Srt (tvOf S.C (orgC S.C S.N) S.N) (S.pl i).ks
 rsrt : Srt (tvOf S.C (orgC S.C S.N) S.N) S.rl
 ilp : S.il.Perm S.N
 ils : S.il.Pairwise (· ≤ ·)
def BuildOk (cs : List SpC) : Prop := fitB cs = true ∧ (cs.map SpC.id).Nodup
theorem fitL_all {h l : Int} : ∀ {cs : List SpC}, fitL h l cs = true → ∀ c, c ∈ cs → chk c = 0
 | [], _, c, hc => by simp at hc
 | a :: r, hf, c, hc => by
  unfold fitL at hf
  split at hf
  ·simp at hf
  ·rename_i h1
   split at hf
   ·rcases List.mem_cons.1 hc with rfl | hc
    ·simpa using h1
    ·exact fitL_all hf c hc
   ·simp at hf
theorem fitB_all {cs : List SpC} (h : fitB cs = true) : cs.length ≤ 1000 ∧ ∀ c, c ∈ cs → chk c = 0 := by
 unfold fitB at h
 simp only [Bool.and_eq_true, decide_eq_true_eq] at h
 exact ⟨h.1, fitL_all h.2⟩
set_option maxHeartbeats 2000000 in
set_option maxRecDepth 10000 in
theorem Build_ok {x : AV} {l : List SpX} {s : St} (hT : TabP s) (h : Sl spE s x l) (hA : ∀ a, a ∈ l → a.At s ∧ a.c.lk.length < 9223372036854775808 ∧ a.c.atr.length < 9223372036854775808 ∧ a.c.ev.length < 9223372036854775808) :
  CallsA P F.forest_Build [x] s fun v s' => (¬ BuildOk (l.map SpX.c) ∧ v = .tuple [.nilptr, .int .i64 101] ∧ Frw [] s s') ∨
   (BuildOk (l.map SpX.c) ∧ ∃ f B o S, v = .tuple [.ptr f 0, .int .i64 0] ∧ Fo s s' f B o S ∧ ForS (l.map SpX.c) S) := by
 refine vc.forest_Build_ok (((CallsD.of fun _ => fits_ok hT h hA).a).mono ?_)
 rintro _ s2 ⟨⟨rfl, f2⟩, fr2⟩
 refine ⟨_, rfl, bsel_of (fun c => .inl ⟨fun hb => ?_, rfl, f2⟩) fun c => ?_⟩
 ·rw [hb.1] at c; simp at c
 have hfit : fitB (l.map SpX.c) = true := by simpa using c
 obtain ⟨hlen, hchk⟩ := fitB_all hfit
 have hlen : l.length ≤ 1000 := by simpa using hlen
 intro m4 s5 n5 m6 s7 n7
 have o7 : Own s7 m6 [.map m4, .nilslice, .nilslice] := n7.own
 have hF7 : Fo s s7 m6 (fun _ => 0) (updF (updF (fun _ => (9, 0)) m4 (1, 0)) m6 (0, 0)) ⟨m4, .nilslice, [], .nilslice, [], [], fun _ => pl0⟩ := by
  have ne : m4 ≠ m6 := n7.ne (MapS.there (MapS.new (f := KU.f) n5))
  refine ⟨by simp, o7, (MapS.new n5).ext n7.fwd, .nil _ _, .nil _ _, updF_same _ _ _, by show updF (updF _ m4 (1, 0)) m6 (0, 0) m4 = _; rw [updF_ne _ _ ne, updF_same], by simp [blkOf], by simp [blkOf], by simp, fun c hc => ?_, (f2.trans n5.fwd).trans n7.fwd, n7.fr⟩
  by_cases e1 : c = m6
  ·rw [e1]; exact (f2.trans n5.fwd).none n7.gone (by simp)
  ·rw [updF_ne _ _ e1] at hc
   by_cases e2 : c = m4
   ·rw [e2]; exact f2.none n5.gone (by simp)
   ·rw [updF_ne _ _ e2] at hc; simp at hc
 refine (h.ext hF7.fwd).slen ?_
 refine ⟨fun n s' m => ∃ (i : Nat) (B : Int → Nat) (o : Nat → Tg) (S : FoD), n = i ∧ m = l.length - i ∧ i ≤ l.length ∧ Fo s s' m6 B o S ∧ Lp1 (l.map SpX.c) i S,
  ⟨_, 0, _, _, _, rfl, rfl, by omega, hF7, ⟨by simp, rfl, rfl, rfl, by simp⟩⟩, ?_⟩
 rintro _ s12 _ ⟨i, B, o, S, rfl, rfl, hi, hF, hL⟩
 refine bsel_of (fun c => ?_) fun c => ?_
 ·have c : i < l.length := by simpa using c
  refine (h.ext hF.fwd).ixs rfl rfl c fun b0 o0 hr => ?_
  obtain ⟨a1, a2, a3, a4⟩ := hA l[i] (List.getElem_mem _)
  have hc0 := chk_small (hchk l[i].c (List.mem_map_of_mem (List.getElem_mem c)))
  generalize hal : l[i] = a at *
  refine ⟨_, _, _, _, _, _, _, _, _, _, _, _, _, hr.all rfl, ?_⟩
  intro m29 s30 n30
  obtain ⟨s31, w31, o31, f31, r31⟩ := n30.put a.cells (SpX.ones a1) rfl
  refine ⟨s31, w31, fun s32 b32 => ?_⟩
  have hF32 := (hF.ext f31 r31).ext b32.fwd b32.fr
  have o32 := o31.ext b32.fwd
  refine ⟨_, hF32.own.ld1 0 rfl, _, o32.ld1 2 rfl, _, hF32.look _, ?_⟩
  have hat : atV S B a.c.id = ptO B (if a.c.id ∈ S.N then some a.c.id else none) := by unfold atV; split <;> rfl
  rw [hat]
  have hcs : (l.map SpX.c)[i]'(by simpa using c) = a.c := by simp [hal]
  have htk : (l.map SpX.c).take (i + 1) = (l.map SpX.c).take i ++ [a.c] := by
   rw [List.take_succ_eq_append_getElem (by simpa using c), hcs]
  refine nilK_ptO (bsel_of (fun e => .inl ⟨fun hb => ?_, rfl, hF32.fwd⟩) fun e => ?_)
  ·have hin : a.c.id ∈ S.N := by
    apply Classical.byContradiction
    intro hn
    rw [if_neg hn] at e
    simp at e
   rw [hL.N] at hin
   have h1 := hb.2
   have e2 : (l.map SpX.c).map SpC.id = (((l.map SpX.c).take i).map SpC.id) ++ a.c.id :: ((l.map SpX.c).drop (i + 1)).map SpC.id := by
    rw [← List.map_cons, ← List.map_append, ← hcs, ← List.drop_eq_getElem_cons (by simpa using c), List.take_append_drop]
   rw [e2, List.nodup_append] at h1
   exact h1.2.2 _ hin _ (List.mem_cons_self ..) rfl
  ·have hin : a.c.id ∉ S.N := by
    intro hn
    rw [if_pos hn] at e
    simp at e
   intro s37 b37
   have hF37 := hF32.ext b37.fwd b37.fr
   have o37 := o32.ext b37.fwd
   have hA37 : a.At s37 := a1.ext (hF37.fwd)
   have hnx : s37.nx = s32.nx + 19 := by rw [b37.1]
   refine ⟨_, hF37.own.ld1 0 rfl, _, o37.ld1 2 rfl, _, _, _, _, _, _, _, _, _, _, _, _, _, o37.all rfl, ((SClone_ok hA37 ⟨by omega, by omega, by omega⟩).gro).mono ?_⟩
   rintro _ s54 ⟨⟨a', rfl, hN⟩, hG⟩
   have o54 := o37.ext hN.fwd
   have hb37 : s37.h.get (s32.nx + 17) = none := by rw [b37.get]; exact hF32.fr _ (by omega)
   have hb54 : s54.h.get (s32.nx + 17) = none := hG.2.2 _ (by omega) hb37
   have hL6 : ∀ c, c ∈ blkOf a'.x ++ blkOf a'.y ++ blkOf a'.z → s37.h.get c = none := fun c hc => by
    simp only [List.mem_append] at hc
    rcases hc with (hc | hc) | hc
    ·exact hN.gx c hc
    ·exact hN.gy c hc
    ·exact hN.gz c hc
   have hL7 : ∀ c, c ∈ blkOf a'.x ++ blkOf a'.y ++ blkOf a'.z → s54.h.get c ≠ none := fun c hc => by
    simp only [List.mem_append] at hc
    rcases hc with (hc | hc) | hc
    ·exact Sl.there' hN.at'.x c hc
    ·exact Sl.there' hN.at'.y c hc
    ·exact Sl.there' hN.at'.z c hc
   have hFt := (hF37.tagL (t := (6, a.c.id)) hL6).tag hb37 (4, a.c.id)
   generalize ho3 : updF (Go.Eng.S.tagL o (blkOf a'.x ++ blkOf a'.y ++ blkOf a'.z) (6, a.c.id)) (s32.nx + 17) (4, a.c.id) = o3 at hFt
   have tb : o3 (s32.nx + 17) = (4, a.c.id) := by rw [← ho3]; exact updF_same _ _ _
   have t6 : ∀ c, c ∈ blkOf a'.x ++ blkOf a'.y ++ blkOf a'.z → (o3 c).1 = 6 := fun c hc => by
    have : c ≠ s32.nx + 17 := fun e => hL7 c hc (e ▸ hb54)
    rw [← ho3, updF_ne _ _ this]
    unfold Go.Eng.S.tagL
    rw [if_pos hc]
   have hF54 := hFt.ext hN.fwd hG.1
   refine ⟨_, _, _, _, _, _, _, _, _, _, _, _, _, rfl, o54.ld1 2 rfl, hF54.own.ld1 0 rfl, _, o54.ld1 2 rfl, o37.ld1 2 rfl, _, o54.ld1 9 rfl, o37.ld1 9 rfl, _, o54.ld1 10 rfl, o37.ld1 10 rfl, ?_⟩
   have hnx54 : s32.nx + 17 < s54.nx := by have := hG.2.1; omega
   have hcc : a'.c = a.c := hN.c
   have hF55 := hF54.ext (hsetS_fwd (o := cellsO (⟨a', ⟨a.c.id, 0, 0, 0, 0, a.c.t0, a.c.t1⟩, .nilslice, []⟩ : Pl).cells) hb54) (hsetS_fr hG.1 hnx54)
   have o55 := o54.ext (hsetS_fwd (o := cellsO (⟨a', ⟨a.c.id, 0, 0, 0, 0, a.c.t0, a.c.t1⟩, .nilslice, []⟩ : Pl).cells) hb54)
   obtain ⟨s71, w71, q71, W71⟩ := hF55.map.set KU (t := T.map_api_SpanID_p_forest_place) ty.map_api_SpanID_p_forest_place rfl a.c.id (.ptr (s32.nx + 17) 0)
   have hini : ∀ j, j ∈ S.N → (S.pl j).k = .nilslice ∧ (S.pl j).ks = [] := fun j hj => by
    rw [hL.N] at hj
    obtain ⟨c', hc', rfl⟩ := List.mem_map.1 hj
    obtain ⟨x', _, e2⟩ := hL.ini c' hc'
    rw [e2]; exact ⟨rfl, rfl⟩
   have hF71 := hF55.addPl hin hsetS_own (hN.at'.ext (hsetS_fwd hb54)) rfl rfl tb t6 q71 W71 ⟨hL.rts, hL.rl⟩ hini
   have hmb : S.mb ≠ m29 := n30.ne hF.map.there
   have o71 := o55.fwd W71.1 (by simpa using Ne.symm hmb)
   refine ⟨s71, w71, fun s72 b72 => ?_⟩
   have hF72 := hF71.ext b72.fwd b72.fr
   have o72 := o71.ext b72.fwd
   have hb72 : s72.h.get (s71.nx + 7) = none := by rw [b72.get]; exact hF71.fr _ (by omega)
   have hnx72 : s71.nx + 7 < s72.nx := by rw [b72.1]; show s71.nx + 7 < s71.nx + 12; omega
   have hF73 := hF72.ext (hsetS_fwd (o := cellsO [.int .u64 a.c.id]) hb72) (hsetS_fr hF72.fr hnx72)
   have hil : S.il.length ≤ 100000 := by
    rw [hL.il, hL.N]
    simp only [List.length_map, List.length_take]
    omega
   obtain ⟨v, s76, w76, h76⟩ := hF73.addId (m := s71.nx + 7) (i := a.c.id) hsetS_own.rd hil
   refine ⟨_, hF72.own.ld1 1 rfl, _, o72.ld1 2 rfl, v, s76, w76, oneK_mono h76 ?_⟩
   rintro ⟨s77, w77, o', hF77⟩
   refine ⟨s77, w77, l.length - (i + 1), by omega, i + 1, _, o', _, wrap_i64 (by omega) (by omega), rfl, by omega, hF77, ⟨?_, ?_, hL.rts, hL.rl, ?_⟩⟩
   ·show S.N ++ [a.c.id] = _
    rw [htk, List.map_append, hL.N]; rfl
   ·show S.il ++ [a.c.id] = S.N ++ [a.c.id]
    rw [hL.il]
   ·intro c' hc'
    rw [htk] at hc'
    rcases List.mem_append.1 hc' with hc' | hc'
    ·obtain ⟨x', e1, e2⟩ := hL.ini c' hc'
     refine ⟨x', e1, ?_⟩
     show updF S.pl a.c.id _ c'.id = _
     rw [updF_ne]
     ·exact e2
     ·intro e
      exact hin (by rw [hL.N, ← e]; exact List.mem_map_of_mem hc')
    ·have : c' = a.c := by simpa using hc'
     subst this
     exact ⟨a', hcc, updF_same _ _ _⟩
 ·have c : i = l.length := by simp at c; omega
  subst c
  have hL1 : S.N = (l.map SpX.c).map SpC.id := by rw [hL.N, List.take_of_length_le (by simp)]
  have hL2 : ∀ c, c ∈ l.map SpX.c → IniP S c := fun c hc => hL.ini c (by rw [List.take_of_length_le (by simp)]; exact hc)
  have hbo : BuildOk (l.map SpX.c) := ⟨hfit, hL1 ▸ hF.nd⟩
  have hil : S.il.length ≤ 1000 := by rw [hL.il, hL1]; simpa using hlen
  refine ⟨_, hF.own.ld1 1 rfl, ((SortI_ok hF.ids (by omega) hF.fr).a).mono ?_⟩
  rintro _ s81 ⟨rfl, il, p1, p2, p3, p4, p5⟩
  have hF81 : Fo s s81 m6 B o { S with ids := S.ids, il := il } := hF.moveIds p4 (fun m hm => .inl (hF.ti m hm)) (hF.own.fwd p4 (fun hm => by have := hF.ti _ hm; rw [hF.tf] at this; simp at this)) p3 hF.ti p5
  have hmem : ∀ i, i ∈ il ↔ i ∈ S.N := fun i => by rw [p1.mem_iff, hL.il]
  have h0 : (0 : Int) ∉ S.N := by
   rw [hL1]
   intro hm
   obtain ⟨c, hc, e⟩ := List.mem_map.1 hm
   exact (chk_small (hchk c hc)).2.2.2.1 e
  have hini : ∀ j, j ∈ S.N → ∃ c, c ∈ l.map SpX.c ∧ c.id = j ∧ IniP S c := fun j hj => by
   rw [hL1] at hj
   obtain ⟨c, hc, e⟩ := List.mem_map.1 hj
   exact ⟨c, hc, e, hL2 c hc⟩
  have hilen : il.length ≤ 1000 := by rw [p1.length_eq]; exact hil
  have hilnd : il.Nodup := p1.nodup_iff.2 (by rw [hL.il]; exact hF.nd)
  refine ⟨rfl, (Root_ok hF81 hmem (by show il.length < 1000000; omega) (fun i hi => ?_) h0).mono ?_⟩
  ·obtain ⟨c, hc, rfl, x', e1, e2⟩ := hini i hi
   rw [show ({ S with ids := S.ids, il := il } : FoD).pl c.id = S.pl c.id from rfl, e2]
   exact ⟨rfl, rfl⟩
  rintro _ s83 ⟨rfl, o3, hF83⟩
  obtain ⟨R, hR⟩ : ∃ R, R = ({ S with ids := S.ids, il := il } : FoD).org (orgC S.C S.N) := ⟨_, rfl⟩
  have hF83 : Fo s s83 m6 B o3 R := hR ▸ hF83
  have RN : R.N = S.N := by rw [hR]; rfl
  have Ril : R.il = il := by rw [hR]; rfl
  have RC : R.C = S.C := by rw [hR]; rfl
  have Rorg : ∀ j, (R.pl j).n.org = orgC S.C S.N j := fun j => by rw [hR]; rfl
  have Rid : ∀ j, (R.pl j).n.id = (S.pl j).n.id := fun j => by rw [hR]; rfl
  have Rpar : ∀ j, j ∈ S.N → (R.pl j).n.par = 0 ∧ (R.pl j).ks = [] ∧ (R.pl j).n.id = j := fun j hj => by
   obtain ⟨c, hc, rfl, x', e1, e2⟩ := hini j hj
   rw [hR]
   show (S.pl c.id).n.par = 0 ∧ (S.pl c.id).ks = [] ∧ (S.pl c.id).n.id = c.id
   rw [e2]; exact ⟨rfl, rfl, rfl⟩
  have Rrl : R.rl = [] := by rw [hR]; exact hL.rl
  have Rtv : ∀ j, j ∈ S.N → (R.pl j).n.tv = ⟨0, 0, (S.C j).t0, (S.C j).t1⟩ := fun j hj => by
   obtain ⟨c, hc, rfl, x', e1, e2⟩ := hini j hj
   rw [hR]
   show (⟨(S.pl c.id).n.tree, (S.pl c.id).n.depth, (S.pl c.id).n.fr, (S.pl c.id).n.till⟩ : Tv) = ⟨0, 0, (S.pl c.id).x.c.t0, (S.pl c.id).x.c.t1⟩
   rw [e2, e1]
  refine ⟨rfl, R.ids, hF83.own.ld1 1 rfl, hF83.ids.sl.slen ?_⟩
  rw [Ril]
  refine ⟨fun n s' m => ∃ (i : Nat) (o : Nat → Tg) (X : FoD), n = i ∧ m = il.length - i ∧ i ≤ il.length ∧ Fo s s' m6 B o X ∧ Dis R i X,
   ⟨_, 0, _, _, rfl, rfl, by omega, hF83, ⟨rfl, rfl, rfl, rfl, fun _ => rfl, fun _ => rfl, fun _ => rfl, fun _ => rfl, fun j hj => by rw [(Rpar j (RN ▸ hj)).1]; simp, fun j hj => by rw [(Rpar j (RN ▸ hj)).2.1]; simp, by rw [Rrl]; simp⟩⟩, ?_⟩
  rintro _ s89 _ ⟨i, o4, X, rfl, rfl, hi, hF4, hD⟩
  have XN : X.N = S.N := hD.N.trans RN
  have XC : X.C = S.C := by
   rw [← RC]; funext j; unfold FoD.C; rw [hD.x]
  have XO : ∀ j, (X.pl j).n.org = orgC S.C S.N j := fun j => (hD.org j).trans (Rorg j)
  refine bsel_of (fun c => ?_) fun c => ?_
  ·have c : i < il.length := by simpa using c
   have hids : Sl linkE s89 R.ids il := by
    have := hF4.ids.sl
    rw [hD.ids, hD.il, Ril] at this
    exact this
   have hjN : il[i] ∈ S.N := (hmem _).1 (List.getElem_mem _)
   have hji : R.il[i]'(by rw [Ril]; exact c) = il[i] := by simp [Ril]
   refine hids.ixs rfl rfl c fun b o' hr => ⟨_, hr.ld1 0 rfl, ?_⟩
   generalize il[i] = j at hjN hji
   have hjX : j ∈ X.N := XN ▸ hjN
   have hlk : ∀ {s' : St} {o' : Nat → Tg} {X' : FoD}, Fo s s' m6 B o' X' → X'.N = S.N → ∀ q, q ∈ S.N → lookupA D s' T.map_api_SpanID_p_forest_place (.map X'.mb) (.int .u64 q) false = some (ptO B (some q)) := fun hF' e q hq => (hF'.look q).trans (congrArg some (if_pos (e ▸ hq)))
   have hpj := hF4.pl j hjX
   refine ⟨_, hF4.own.ld1 0 rfl, ptO B (some j), hlk hF4 XN j hjN, ptrK_of ⟨_, hpj.own.ld1 15 rfl, ?_⟩⟩
   refine bsel_of (fun e => ?_) fun e => ?_
   ·have e : (X.pl j).n.org = 0 := by simpa using e
    have hpN : (S.C j).par ∈ S.N := by
     rw [XO, orgC] at e
     apply Classical.byContradiction
     intro hn
     by_cases h1 : (S.C j).par = 0
     ·rw [if_pos h1] at e; simp at e
     ·rw [if_neg h1, if_pos hn] at e; simp at e
    have hld3 : ∀ {s' : St} {o' : Nat → Tg} {X' : FoD}, Fo s s' m6 B o' X' → j ∈ X'.N → X'.C j = S.C j → ld1 s' (.ptr (B j) 3) = some (.int .u64 (S.C j).par) := fun hF' hj' e => by
     rw [← e]; exact (hF'.pl j hj').own.ld1 3 rfl
    obtain ⟨s104, w104, hF104, K104⟩ := hF4.wrNode hjX 14 [.int .u64 (S.C j).par] { (X.pl j).n with par := (S.C j).par } rfl (by simp) rfl
    refine ptrK_of ⟨_, hld3 hF4 hjX (by rw [XC]), ptrK_of ⟨s104, w104, fun s105 b105 => ?_⟩⟩
    have hF105 := hF104.ext b105.fwd b105.fr
    have hC2 : ({ X with pl := updF X.pl j { X.pl j with n := { (X.pl j).n with par := (S.C j).par } } } : FoD).C j = S.C j := by
     show (updF X.pl j _ j).x.c = _
     rw [updF_same, ← XC]; rfl
    refine ⟨_, hF105.own.ld1 0 rfl, ptrK_of ⟨_, hld3 hF105 hjX hC2, ptO B (some (S.C j).par), hlk hF105 XN _ hpN, ?_⟩⟩
    have hpX : (S.C j).par ∈ X.N := XN ▸ hpN
    refine ptrK_of ⟨_, (hF105.pl _ hpX).own.ld1 20 rfl, oneK_ptr fun m114 s115 n115 => ?_⟩
    have hF115 := hF105.ext n115.fwd n115.fr
    have hks : ((updF X.pl j { X.pl j with n := { (X.pl j).n with par := (S.C j).par } }) (S.C j).par).ks.length ≤ 100000 := by
     have e1 : ((updF X.pl j { X.pl j with n := { (X.pl j).n with par := (S.C j).par } }) (S.C j).par).ks = (X.pl (S.C j).par).ks := by
      by_cases e2 : (S.C j).par = j
      ·rw [e2, updF_same]
      ·rw [updF_ne _ _ e2]
     rw [e1, hD.ks _ (RN.symm ▸ hpN)]
     refine Nat.le_trans (List.length_filter_le _ _) ?_
     rw [Ril, List.length_take]; omega
    obtain ⟨v, s117, w117, h117⟩ := hF115.addKid (p := (S.C j).par) (m := m114) (i := j) hpX n115.own.rd hks
    refine ⟨v, s117, w117, ptrK_of (oneK_mono h117 ?_)⟩
    rintro ⟨s120, w120, o5, hF120⟩
    refine ⟨s120, w120, il.length - (i + 1), by omega, i + 1, o5, _, wrap_i64 (by omega) (by omega), rfl, by omega, hF120, ?_⟩
    exact hD.kid (by rw [Ril]; exact c) hji (by rw [Rorg, ← XO]; exact e) (by rw [RC]) (by rw [Ril]; exact hilnd)
   ·have e : (X.pl j).n.org ≠ 0 := by simpa using e
    refine ⟨_, hF4.own.ld1 2 rfl, oneK_ptr fun m123 s124 n124 => ?_⟩
    have hF124 := hF4.ext n124.fwd n124.fr
    have hrl : X.rl.length ≤ 100000 := by
     rw [hD.rl]
     refine Nat.le_trans (List.length_filter_le _ _) ?_
     rw [Ril, List.length_take]; omega
    obtain ⟨v, s126, w126, h126⟩ := hF124.addRt (m := m123) (i := j) n124.own.rd hrl
    refine ⟨v, s126, w126, oneK_mono h126 ?_⟩
    rintro ⟨s127, w127, o5, hF127⟩
    exact ⟨s127, w127, il.length - (i + 1), by omega, i + 1, o5, _, wrap_i64 (by omega) (by omega), rfl, by omega, hF127, hD.root (by rw [Ril]; exact c) hji (by rw [Rorg, ← XO]; exact e)⟩
  ·have c : i = il.length := by simp at c; omega
   subst c
   have htk : R.il.take il.length = il := by rw [Ril, List.take_length]
   have hrlN : ∀ r, r ∈ X.rl ↔ r ∈ S.N ∧ (X.pl r).n.org ≠ 0 := fun r => by
    rw [hD.rl, htk, List.mem_filter, hmem, hD.org]
    simp
   have hid : ∀ i, i ∈ X.N → (X.pl i).n.id = i := fun i hi => by
    rw [hD.id]; exact (Rpar i (XN ▸ hi)).2.2
   have hrll : X.rl.length ≤ 1000 := by
    rw [hD.rl, htk]
    exact Nat.le_trans (List.length_filter_le _ _) hilen
   refine ⟨_, hF4.own.ld1 2 rfl, ((SortP_ok hF4 hid hF4.rts (fun i hi => XN ▸ ((hrlN i).1 hi).1) (by omega) (fun c hc i e => by rw [hF4.tr c hc] at e; simp at e)).a).mono ?_⟩
   rintro _ s131 ⟨⟨rfl, rl, q1, q2, q3, q4⟩, q5⟩
   have hF131 := hF4.moveRts q4 (fun m hm => .inl (hF4.tr m hm)) (hF4.own.fwd q4 (fun hm => by have := hF4.tr _ hm; rw [hF4.tf] at this; simp at this)) q3 hF4.tr q5
   have hp0 : ∀ i, i ∈ S.N → orgC S.C S.N i = 0 → (S.C i).par ∈ S.N := by
    intro j _ e
    rw [orgC] at e
    apply Classical.byContradiction
    intro hn
    by_cases h1 : (S.C j).par = 0
    ·rw [if_pos h1] at e; simp at e
    ·rw [if_neg h1, if_pos hn] at e; simp at e
   have hTI : TreeI { X with rts := X.rts, rl := rl } := by
    refine ⟨hid, fun p hp q hq => ?_, fun p hp => ?_, fun p hp => ?_, fun q hq hg => ?_, fun x hx => ?_⟩
    ·have hp : p ∈ S.N := XN ▸ hp
     have hq : q ∈ (X.pl p).ks := hq
     rw [hD.ks p (RN.symm ▸ hp), htk, List.mem_filter] at hq
     obtain ⟨k1, k2⟩ := hq
     simp only [decide_eq_true_eq] at k2
     refine ⟨XN.symm ▸ (hmem q).1 k1, (hD.org q).trans k2.1, ?_⟩
     show (X.C q).par = p
     rw [XC, ← RC]; exact k2.2
    ·show (X.pl p).ks.length < 1000000
     rw [hD.ks p (RN.symm ▸ XN ▸ hp), htk]
     have := List.length_filter_le (fun t => decide ((R.pl t).n.org = 0 ∧ (R.C t).par = p)) il
     omega
    ·show (X.pl p).ks.Nodup
     rw [hD.ks p (RN.symm ▸ XN ▸ hp), htk]
     exact hilnd.filter _
    ·have hq : q ∈ S.N := XN ▸ hq
     have hg : (X.pl q).n.org = 0 := hg
     have hpN : (S.C q).par ∈ S.N := hp0 q hq (by rw [← XO]; exact hg)
     show (X.C q).par ∈ X.N ∧ q ∈ (X.pl (X.C q).par).ks
     rw [XN, XC]
     refine ⟨hpN, ?_⟩
     rw [hD.ks _ (RN.symm ▸ hpN), htk, List.mem_filter]
     refine ⟨(hmem q).2 hq, ?_⟩
     simp only [decide_eq_true_eq]
     exact ⟨by rw [← hD.org]; exact hg, by rw [RC]⟩
    ·have hx : Ring (upC X.C X.N) x := hx
     rw [XC, XN] at hx
     obtain ⟨m, m1, m2⟩ := hx.least (N := S.N) upC_in
     refine ⟨m, by show Reach (upC X.C X.N) x m; rw [XC, XN]; exact m1, ?_⟩
     show (X.pl m).n.org ≠ 0
     rw [XO, orgC]
     by_cases h1 : (S.C m).par = 0
     ·rw [if_pos h1]; simp
     ·by_cases h2 : (S.C m).par ∉ S.N
      ·rw [if_neg h1, if_pos h2]; simp
      ·rw [if_neg h1, if_neg h2, if_pos m2]; simp
   have hacy : ∀ x, Ring (upC S.C S.N) x → ∃ y, Reach (upC S.C S.N) x y ∧ orgC S.C S.N y ≠ 0 := fun x hx => by
    obtain ⟨y, y1, y2⟩ := hTI.acy x (by show Ring (upC X.C X.N) x; rw [XC, XN]; exact hx)
    have y1 : Reach (upC X.C X.N) x y := y1
    rw [XC, XN] at y1
    exact ⟨y, y1, by rw [← XO]; exact y2⟩
   obtain ⟨T, hTd⟩ : ∃ T, T = tvOf S.C (orgC S.C S.N) S.N := ⟨_, rfl⟩
   have Xtv : ∀ j, j ∈ S.N → (X.pl j).n.tv = ⟨0, 0, (S.C j).t0, (S.C j).t1⟩ := fun j hj => (hD.tv j).trans (Rtv j hj)
   have hTv : TvI T { X with rts := X.rts, rl := rl } := by
    intro i hi hg
    have hi : i ∈ S.N := XN ▸ hi
    have hg : (X.pl i).n.org = 0 := hg
    show T i = stepT (X.C i) (T (X.C i).par)
    rw [hTd, XC]
    exact tvOf_step hp0 hacy hi (by rw [← XO]; exact hg)
   have hRV : ∀ i, i ∈ ({ X with rts := X.rts, rl := rl } : FoD).N → RV T { X with rts := X.rts, rl := rl } i := by
    intro i hi
    have hi : i ∈ S.N := XN ▸ hi
    have e := Xtv i hi
    refine .inl ⟨congrArg Tv.depth e, ?_, ?_⟩
    ·show (X.pl i).n.fr = (X.C i).t0
     rw [XC]; exact congrArg Tv.fr e
    ·show (X.pl i).n.till = (X.C i).t1
     rw [XC]; exact congrArg Tv.till e
   refine ⟨rfl, (Settle_ok (T := T) hF131 hTI (fun r hr => ?_) ?_ hTv (fun r hr => ?_) hRV).mono ?_⟩
   ·obtain ⟨k1, k2⟩ := (hrlN r).1 (q1.mem_iff.1 hr)
    exact ⟨XN.symm ▸ k1, k2⟩
   ·show rl.length < 1000000
    rw [q1.length_eq]; omega
   ·obtain ⟨k1, k2⟩ := (hrlN r).1 (q1.mem_iff.1 hr)
    show T r = rootT X.C r
    rw [hTd, XC]
    exact tvOf_root (by rw [← XO]; exact k2)
   rintro _ s133 ⟨rfl, o6, S6, hF6, hS6, hDn⟩
   have N6 : S6.N = S.N := hS6.N.trans XN
   have C6 : S6.C = S.C := hS6.C.trans XC
   have O6 : ∀ j, (S6.pl j).n.org = orgC S.C S.N j := fun j => (hS6.org j).trans (XO j)
   have hT6 := hTI.same hS6
   have hrl6 : ∀ r, r ∈ rl ↔ r ∈ S.N ∧ orgC S.C S.N r ≠ 0 := fun r => by rw [q1.mem_iff, hrlN, XO]
   have cover : ∀ (k : Nat) (i : Int), i ∈ S.N → itU (upI S.C (orgC S.C S.N) S.N) k i = none → ∃ r, r ∈ rl ∧ (r = i ∨ Bel S6 r i) := by
    intro k
    induction k with
    | zero => intro i _ h; simp [itU] at h
    | succ k ih =>
     intro i hi h
     by_cases hg : orgC S.C S.N i = 0
     ·have hu : upI S.C (orgC S.C S.N) S.N i = some (S.C i).par := by
       unfold upI upC
       rw [if_pos ⟨hi, hg⟩, if_pos (hp0 i hi hg)]
      simp only [itU, hu, Option.bind_some] at h
      obtain ⟨r, r1, r2⟩ := ih _ (hp0 i hi hg) h
      have hk := (hT6.all i (N6.symm ▸ hi) (by rw [O6]; exact hg)).2
      rw [C6] at hk
      refine ⟨r, r1, .inr ?_⟩
      rcases r2 with e | hb
      ·rw [e]; exact .kid hk
      ·exact hb.snoc hk
     ·exact ⟨i, (hrl6 i).2 ⟨hi, hg⟩, .inl rfl⟩
   have hall : ∀ i, i ∈ S.N → Vis T S6 i ∧ Srt T (S6.pl i).ks := fun i hi => by
    obtain ⟨r, r1, r2⟩ := cover _ i hi (ends_at (fun x y h => (upI_in x y h).2.2.2) (upI_acy hacy) hi)
    have hd := hDn r r1
    rcases r2 with rfl | hb
    ·exact ⟨hd.vis, hd.srt⟩
    ·exact hd.bel i hb
   have hrs : Srt T rl := by
    have hnd' : rl.Nodup := q1.nodup_iff.2 (by rw [hD.rl, htk]; exact hilnd.filter _)
    refine (List.Pairwise.and_mem.1 (q2.and hnd')).imp fun {x y} h => ?_
    obtain ⟨hx, hy, h1, h2⟩ := h
    obtain ⟨x1, x2⟩ := (hrl6 x).1 hx
    obtain ⟨y1, y2⟩ := (hrl6 y).1 hy
    have k2 := cfO_lt (fun i => (X.pl i).n) y x
    have ex := hid x (XN.symm ▸ x1)
    have ey := hid y (XN.symm ▸ y1)
    have fx : (X.pl x).n.fr = (T x).fr := by
     rw [hTd, tvOf_root x2]; exact congrArg Tv.fr (Xtv x x1)
    have fy : (X.pl y).n.fr = (T y).fr := by
     rw [hTd, tvOf_root y2]; exact congrArg Tv.fr (Xtv y y1)
    simp only [ex, ey, fx, fy] at k2
    unfold ltT
    omega
   refine ⟨rfl, .inr ⟨hbo, m6, B, o6, S6, rfl, hF6, ⟨N6.trans hL1, fun c hc => ?_, fun i hi => ?_, fun i hi => ?_, fun i hi => ?_, hT6, fun r => ?_, fun i hi => ?_, fun i hi => ?_, ?_, ?_, ?_⟩⟩⟩
   ·rw [C6]
    obtain ⟨x', e1, e2⟩ := hL2 c hc
    show (S.pl c.id).x.c = c
    rw [e2]; exact e1
   ·rw [hS6.id]; exact hid i (hS6.N ▸ hi)
   ·rw [O6, C6, N6]
   ·rw [hS6.par, show ({ X with rts := X.rts, rl := rl } : FoD).pl i = X.pl i from rfl, hD.par i (RN.symm ▸ N6 ▸ hi), htk, O6, Rorg, C6, RC]
    have : i ∈ il := (hmem i).2 (N6 ▸ hi)
    simp only [this, and_true]
   ·rw [hS6.rl, N6, O6]
    exact hrl6 r
   ·rw [C6, N6, ← hTd]
    exact (hall i (N6 ▸ hi)).1
   ·rw [C6, N6, ← hTd]
    exact (hall i (N6 ▸ hi)).2
   ·rw [C6, N6, ← hTd, hS6.rl]
    exact hrs
   ·have e : S6.il = il := by rw [hS6.il]; show X.il = il; rw [hD.il, Ril]
    rw [e, N6]
    exact p1.trans (.of_eq hL.il)
   ·have e : S6.il = il := by rw [hS6.il]; show X.il = il; rw [hD.il, Ril]
    rw [e]
    exact p2
end
end Go.Eng.S

namespace Go.Eng.S
open Go Go.Eng Go.Proofs
set_option linter.constructorNameAsVariable false
noncomputable section
attribute [local irreducible] bsel
def nd0 : Nd := ⟨0, 0, 0, 0, 0, 0, 0⟩
theorem Node_ok {s0 s : St} {f : Nat} {B : Int → Nat} {o : Nat → Tg} {S : FoD} (h : Fo s0 s f B o S) (i : Int) :
  CallsD P F.p_forest_Forest_Node [.ptr f 0, .int .u64 i] s fun v s' => v = .tuple [.agg (if i ∈ S.N then (S.pl i).n else nd0).cells, .bool (decide (i ∈ S.N))] ∧ Frw [] s s' := by
 refine vc.p_forest_Forest_Node_ok ?_
 intro m1 s2 n2
 have h2 := h.ext n2.fwd n2.fr
 have hat : atV S B i = ptO B (if i ∈ S.N then some i else none) := by unfold atV; split <;> rfl
 refine ptrK_of ⟨_, h2.own.ld1 0 rfl, _, h2.look _, ?_⟩
 rw [hat]
 refine nilK_ptO (bsel_of (fun e => ?_) fun e => ?_)
 ·have hi : i ∈ S.N := by
   apply Classical.byContradiction
   intro hn
   rw [if_neg hn] at e
   simp at e
  rw [if_pos hi, if_pos hi]
  obtain ⟨s17, w17, o17, f17, r17⟩ := n2.put (S.pl i).n.cells rfl rfl
  exact ptrK_of ⟨_, _, _, _, _, _, _, (h2.pl i hi).own.ldN 13 7 (by simp [Pl.cells, SpX.cells, Nd.cells]), s17, w17, _, _, _, _, _, _, _, o17.all rfl, by simp [hi]; rfl, f17⟩
 ·have hi : i ∉ S.N := by
   intro hn
   rw [if_pos hn] at e
   simp at e
  rw [if_neg hi]
  obtain ⟨s25, w25, o25, f25, r25⟩ := n2.put nd0.cells rfl rfl
  exact ⟨s25, w25, _, _, _, _, _, _, _, o25.all rfl, by simp [hi]; rfl, f25⟩
end
end Go.Eng.S

namespace Go.Eng.S
open Go Go.Eng Go.Proofs
set_option linter.constructorNameAsVariable false
noncomputable section
instance : Inhabited AttrC := ⟨⟨⟨#[]⟩, 0, ⟨#[]⟩, 0⟩⟩
instance : Inhabited EvC := ⟨⟨0, ⟨#[]⟩⟩⟩
theorem links_read {H : Type} {enc : TypeId × Value → H} {w : World} {base : Nat} {held : Bool} {fuel : Nat} {v : Value} {x : DataW H × List MemPlace} (h : DataW.trod enc P w base (fun _ => true) held fuel T.sl_api_SpanID [v] = some x) :
  ∃ (a : AV) (l : List Int), absV w.heap.size v = some a ∧ Sl linkE (stW w) a l ∧ l.length ≤ maxLen := by
 obtain ⟨a, l, h1, h2, _, h4, _⟩ := slice_read2 linkE (fun _ => True) h Tryd.underlying28 (by kernel_rfl) fun n cs y hy hl => by
  obtain ⟨hr, e0, _, w0⟩ := DataW.trod_int Tryd.underlying31 hy
  subst e0
  refine ⟨hr, trivial, fun j hj => ?_⟩
  have hj : j < 1 := hj
  obtain rfl : j = 0 := by omega
  exact ⟨_, _, rfl, rfl, rfl⟩
 exact ⟨a, l, h1, h2, h4⟩
set_option maxRecDepth 100000 in
theorem attrs_read {H : Type} {enc : TypeId × Value → H} {w : World} {base : Nat} {held : Bool} {fuel : Nat} {v : Value} {x : DataW H × List MemPlace} (h : DataW.trod enc P w base (fun _ => true) held fuel T.sl_api_Attr [v] = some x) :
  ∃ (a : AV) (l : List AttrC), absV w.heap.size v = some a ∧ Sl attrE (stW w) a l ∧ l.length ≤ maxLen := by
 obtain ⟨a, l, h1, h2, _, h4, _⟩ := slice_read2 (α := AttrC) attrE (fun _ => True) h Tryd.underlying61 (by kernel_rfl) fun n cs y hy hl => by
  have hl : cs.length = 4 := hl
  obtain ⟨xs, n, _, _, _, hx, hf⟩ := DataW.trod_struct Tryd.underlying89 hy
  change xs.length = 2 at hx
  have hf' := fun i f (hf0 : _) => hf i f hf0
  have g0 := hf' 0 _ rfl
  have g1 := hf' 1 _ rfl
  rw [List.getElem?_eq_getElem (by omega)] at g0 g1
  change DataW.trod enc P w base (fun _ => true) held n T.ystring_9 (List.take (P.cellsOf T.ystring_9) (List.drop 0 cs)) = _ at g0
  change DataW.trod enc P w base (fun _ => true) held n T.api_Value (List.take (P.cellsOf T.api_Value) (List.drop 1 cs)) = _ at g1
  obtain ⟨s0, e0, _, _⟩ := DataW.trod_string Tryd.underlying9 g0
  obtain ⟨xs1, n1, _, _, hl1, hx1, hf1⟩ := DataW.trod_struct Tryd.underlying87 g1
  change xs1.length = 3 at hx1
  have k0 := hf1 0 _ rfl
  have k1 := hf1 1 _ rfl
  have k2 := hf1 2 _ rfl
  rw [List.getElem?_eq_getElem (by omega)] at k0 k1 k2
  rw [show P.cellsOf T.api_Value = 3 by kernel_rfl] at k0 k1 k2
  change DataW.trod enc P w base (fun _ => true) held n1 T.api_ValueKind (List.take (P.cellsOf T.api_ValueKind) (List.drop 0 (List.take 3 (List.drop 1 cs)))) = _ at k0
  change DataW.trod enc P w base (fun _ => true) held n1 T.ystring_9 (List.take (P.cellsOf T.ystring_9) (List.drop 1 (List.take 3 (List.drop 1 cs)))) = _ at k1
  change DataW.trod enc P w base (fun _ => true) held n1 T.int64 (List.take (P.cellsOf T.int64) (List.drop 2 (List.take 3 (List.drop 1 cs)))) = _ at k2
  obtain ⟨kd, e1, _, w1⟩ := DataW.trod_int Tryd.underlying85 k0
  obtain ⟨s1, e2, _, _⟩ := DataW.trod_string Tryd.underlying9 k1
  obtain ⟨nm, e3, _, w3⟩ := DataW.trod_int Tryd.underlying2 k2
  rw [show P.cellsOf T.ystring_9 = 1 by kernel_rfl] at e0 e2
  rw [show P.cellsOf T.api_ValueKind = 1 by kernel_rfl] at e1
  rw [show P.cellsOf T.int64 = 1 by kernel_rfl] at e3
  obtain ⟨v0, v1, v2, v3, rfl⟩ : ∃ v0 v1 v2 v3, cs = [v0, v1, v2, v3] := by
   match cs, hl with
   | [v0, v1, v2, v3], _ => exact ⟨v0, v1, v2, v3, rfl⟩
  simp at e0 e1 e2 e3
  subst e0; subst e1; subst e2; subst e3
  refine ⟨⟨s0, kd, s1, nm⟩, trivial, fun j hj => ?_⟩
  match j, hj with
  | 0, _ => exact ⟨_, _, rfl, rfl, rfl⟩
  | 1, _ => exact ⟨_, _, rfl, rfl, rfl⟩
  | 2, _ => exact ⟨_, _, rfl, rfl, rfl⟩
  | 3, _ => exact ⟨_, _, rfl, rfl, rfl⟩
 exact ⟨a, l, h1, h2, h4⟩
set_option maxRecDepth 100000 in
theorem events_read {H : Type} {enc : TypeId × Value → H} {w : World} {base : Nat} {held : Bool} {fuel : Nat} {v : Value} {x : DataW H × List MemPlace} (h : DataW.trod enc P w base (fun _ => true) held fuel T.sl_api_Event [v] = some x) :
  ∃ (a : AV) (l : List EvC), absV w.heap.size v = some a ∧ Sl evE (stW w) a l ∧ l.length ≤ maxLen := by
 obtain ⟨a, l, h1, h2, _, h4, _⟩ := slice_read2 (α := EvC) evE (fun _ => True) h Tryd.underlying62 (by kernel_rfl) fun n cs y hy hl => by
  have hl : cs.length = 2 := hl
  obtain ⟨xs, n, _, _, _, hx, hf⟩ := DataW.trod_struct Tryd.underlying92 hy
  change xs.length = 2 at hx
  have hf' := fun i f (hf0 : _) => hf i f hf0
  have g0 := hf' 0 _ rfl
  have g1 := hf' 1 _ rfl
  rw [List.getElem?_eq_getElem (by omega)] at g0 g1
  change DataW.trod enc P w base (fun _ => true) held n T.int64 (List.take (P.cellsOf T.int64) (List.drop 0 cs)) = _ at g0
  change DataW.trod enc P w base (fun _ => true) held n T.ystring_9 (List.take (P.cellsOf T.ystring_9) (List.drop 1 cs)) = _ at g1
  obtain ⟨at', e0, _, w0⟩ := DataW.trod_int Tryd.underlying2 g0
  obtain ⟨s0, e1, _, _⟩ := DataW.trod_string Tryd.underlying9 g1
  rw [show P.cellsOf T.ystring_9 = 1 by kernel_rfl] at e1
  rw [show P.cellsOf T.int64 = 1 by kernel_rfl] at e0
  obtain ⟨v0, v1, rfl⟩ : ∃ v0 v1, cs = [v0, v1] := by
   match cs, hl with
   | [v0, v1], _ => exact ⟨v0, v1, rfl⟩
  simp at e0 e1
  subst e0; subst e1
  refine ⟨⟨at', s0⟩, trivial, fun j hj => ?_⟩
  match j, hj with
  | 0, _ => exact ⟨_, _, rfl, rfl, rfl⟩
  | 1, _ => exact ⟨_, _, rfl, rfl, rfl⟩
 exact ⟨a, l, h1, h2, h4⟩
instance : Inhabited SpX := ⟨⟨⟨0, 0, 0, 0, [], ⟨#[]⟩, ⟨#[]⟩, 0, 0, 0, 0, [], []⟩, .nilslice, .nilslice, .nilslice⟩⟩
def SpX.OkT (g3 g4 : Nat) (w : World) (a : SpX) : Prop := a.At (stT g3 g4 w) ∧ a.c.lk.length < 9223372036854775808 ∧ a.c.atr.length < 9223372036854775808 ∧ a.c.ev.length < 9223372036854775808
set_option maxRecDepth 100000 in
set_option maxHeartbeats 1000000 in
theorem spans_read {H : Type} {enc : TypeId × Value → H} {w : World} {base : Nat} {held : Bool} {fuel : Nat} {v : Value} {x : DataW H × List MemPlace} {g3 g4 : Nat} (hT : TabsW g3 g4 w) (h : DataW.trod enc P w base (fun _ => true) held fuel T.sl_api_Span [v] = some x) :
  ∃ (a : AV) (l : List SpX), absV w.heap.size v = some a ∧ Sl spE (stT g3 g4 w) a l ∧ (∀ c, c ∈ l → c.OkT g3 g4 w) ∧ ArgS a ∧ l.length ≤ maxLen ∧ l.length ≤ slcLen x.1 := by
 obtain ⟨a, l, h1, h2, h3, h4, h5⟩ := slice_read2 spE (SpX.OkT g3 g4 w) h Tryd.underlying22 (by kernel_rfl) fun n cs y hy hl => by
  have hl : cs.length = 13 := hl
  obtain ⟨xs, n, _, _, _, hx, hf⟩ := DataW.trod_struct Tryd.underlying64 hy
  change xs.length = 12 at hx
  have hf' := fun i f (hf0 : _) => hf i f hf0
  have g0 := hf' 0 _ rfl
  have g1 := hf' 1 _ rfl
  have g2 := hf' 2 _ rfl
  have g3' := hf' 3 _ rfl
  have g4' := hf' 4 _ rfl
  have g5 := hf' 5 _ rfl
  have g6 := hf' 6 _ rfl
  have g7 := hf' 7 _ rfl
  have g8 := hf' 8 _ rfl
  have g9 := hf' 9 _ rfl
  have g10 := hf' 10 _ rfl
  have g11 := hf' 11 _ rfl
  rw [List.getElem?_eq_getElem (by omega)] at g0 g1 g2 g3' g4' g5 g6 g7 g8 g9 g10 g11
  change DataW.trod enc P w base (fun _ => true) held n T.api_TraceID (List.take (P.cellsOf T.api_TraceID) (List.drop 0 cs)) = _ at g0
  change DataW.trod enc P w base (fun _ => true) held n T.api_SpanID (List.take (P.cellsOf T.api_SpanID) (List.drop 2 cs)) = _ at g1
  change DataW.trod enc P w base (fun _ => true) held n T.api_SpanID (List.take (P.cellsOf T.api_SpanID) (List.drop 3 cs)) = _ at g2
  change DataW.trod enc P w base (fun _ => true) held n T.sl_api_SpanID (List.take (P.cellsOf T.sl_api_SpanID) (List.drop 4 cs)) = _ at g3'
  change DataW.trod enc P w base (fun _ => true) held n T.ystring_9 (List.take (P.cellsOf T.ystring_9) (List.drop 5 cs)) = _ at g4'
  change DataW.trod enc P w base (fun _ => true) held n T.ystring_9 (List.take (P.cellsOf T.ystring_9) (List.drop 6 cs)) = _ at g5
  change DataW.trod enc P w base (fun _ => true) held n T.api_Kind (List.take (P.cellsOf T.api_Kind) (List.drop 7 cs)) = _ at g6
  change DataW.trod enc P w base (fun _ => true) held n T.api_Status (List.take (P.cellsOf T.api_Status) (List.drop 8 cs)) = _ at g7
  change DataW.trod enc P w base (fun _ => true) held n T.int64 (List.take (P.cellsOf T.int64) (List.drop 9 cs)) = _ at g8
  change DataW.trod enc P w base (fun _ => true) held n T.int64 (List.take (P.cellsOf T.int64) (List.drop 10 cs)) = _ at g9
  change DataW.trod enc P w base (fun _ => true) held n T.sl_api_Attr (List.take (P.cellsOf T.sl_api_Attr) (List.drop 11 cs)) = _ at g10
  change DataW.trod enc P w base (fun _ => true) held n T.sl_api_Event (List.take (P.cellsOf T.sl_api_Event) (List.drop 12 cs)) = _ at g11
  obtain ⟨hi, lo, e0, _, _⟩ := pair_read g0 Tryd.underlying58 rfl rfl rfl rfl Tryd.underlying30 Tryd.underlying30 (by kernel_rfl) (by kernel_rfl) (by kernel_rfl)
  obtain ⟨id, e1, _, _⟩ := DataW.trod_int Tryd.underlying31 g1
  obtain ⟨par, e2, _, _⟩ := DataW.trod_int Tryd.underlying31 g2
  obtain ⟨svc, e4, _, _⟩ := DataW.trod_string Tryd.underlying9 g4'
  obtain ⟨op, e5, _, _⟩ := DataW.trod_string Tryd.underlying9 g5
  obtain ⟨kd, e6, _, _⟩ := DataW.trod_int Tryd.underlying59 g6
  obtain ⟨st, e7, _, _⟩ := DataW.trod_int Tryd.underlying60 g7
  obtain ⟨t0, e8, _, _⟩ := DataW.trod_int Tryd.underlying2 g8
  obtain ⟨t1, e9, _, _⟩ := DataW.trod_int Tryd.underlying2 g9
  rw [show P.cellsOf T.api_TraceID = 2 by kernel_rfl] at e0
  rw [show P.cellsOf T.api_SpanID = 1 by kernel_rfl] at e1 e2
  rw [show P.cellsOf T.ystring_9 = 1 by kernel_rfl] at e4 e5
  rw [show P.cellsOf T.api_Kind = 1 by kernel_rfl] at e6
  rw [show P.cellsOf T.api_Status = 1 by kernel_rfl] at e7
  rw [show P.cellsOf T.int64 = 1 by kernel_rfl] at e8 e9
  rw [show P.cellsOf T.sl_api_SpanID = 1 by kernel_rfl] at g3'
  rw [show P.cellsOf T.sl_api_Attr = 1 by kernel_rfl] at g10
  rw [show P.cellsOf T.sl_api_Event = 1 by kernel_rfl] at g11
  obtain ⟨v0, v1, v2, v3, v4, v5, v6, v7, v8, v9, v10, v11, v12, rfl⟩ : ∃ v0 v1 v2 v3 v4 v5 v6 v7 v8 v9 v10 v11 v12, cs = [v0, v1, v2, v3, v4, v5, v6, v7, v8, v9, v10, v11, v12] := by
   match cs, hl with
   | [v0, v1, v2, v3, v4, v5, v6, v7, v8, v9, v10, v11, v12], _ => exact ⟨v0, v1, v2, v3, v4, v5, v6, v7, v8, v9, v10, v11, v12, rfl⟩
  obtain ⟨xa, lk, q1, q2, q3⟩ := links_read (v := v4) g3'
  obtain ⟨ya, atr, q4, q5, q6⟩ := attrs_read (v := v11) g10
  obtain ⟨za, ev, q7, q8, q9⟩ := events_read (v := v12) g11
  simp at e0 e1 e2 e4 e5 e6 e7 e8 e9
  obtain ⟨rfl, rfl⟩ := e0
  subst e1; subst e2; subst e4; subst e5; subst e6; subst e7; subst e8; subst e9
  refine ⟨⟨⟨hi, lo, id, par, lk, svc, op, kd, st, t0, t1, atr, ev⟩, xa, ya, za⟩, ⟨⟨?_, ?_, ?_⟩, ?_, ?_, ?_⟩, fun j hj => ?_⟩
  ·exact q2.toT hT q1 (fun a c hc n e => by simp [oneE, idK] at hc; rw [← hc] at e; simp at e)
  ·exact q5.toT hT q4 (fun a c hc n e => by simp [attrE] at hc; rw [← hc] at e; simp at e)
  ·exact q8.toT hT q7 (fun a c hc n e => by simp [evE] at hc; rw [← hc] at e; simp at e)
  ·show lk.length < _; unfold maxLen at q3; omega
  ·show atr.length < _; unfold maxLen at q6; omega
  ·show ev.length < _; unfold maxLen at q9; omega
  ·match j, hj with
   | 0, _ => exact ⟨_, _, rfl, rfl, rfl⟩
   | 1, _ => exact ⟨_, _, rfl, rfl, rfl⟩
   | 2, _ => exact ⟨_, _, rfl, rfl, rfl⟩
   | 3, _ => exact ⟨_, _, rfl, rfl, rfl⟩
   | 4, _ => exact ⟨_, _, rfl, rfl, q1⟩
   | 5, _ => exact ⟨_, _, rfl, rfl, rfl⟩
   | 6, _ => exact ⟨_, _, rfl, rfl, rfl⟩
   | 7, _ => exact ⟨_, _, rfl, rfl, rfl⟩
   | 8, _ => exact ⟨_, _, rfl, rfl, rfl⟩
   | 9, _ => exact ⟨_, _, rfl, rfl, rfl⟩
   | 10, _ => exact ⟨_, _, rfl, rfl, rfl⟩
   | 11, _ => exact ⟨_, _, rfl, rfl, q4⟩
   | 12, _ => exact ⟨_, _, rfl, rfl, q7⟩
 exact ⟨a, l, h1, h2.toT hT h1 (fun a c hc n e => by simp [spE, SpX.cells] at hc; rw [← hc] at e; simp at e), h3, absV_arg h1 h2.len, h4, h5⟩
end
end Go.Eng.S

namespace Go.Eng.S
open Go Go.Eng Go.Proofs Go.RowKit Go.Lib
set_option linter.constructorNameAsVariable false
noncomputable section
theorem u8x : U8Extra P Tryd.validS_ren :=
 ⟨by kernel_rfl, by kernel_rfl, by kernel_rfl, by kernel_rfl, by kernel_rfl, by kernel_rfl, by kernel_rfl⟩
theorem tabsW_of {w : World} (h3 : VarReads P w "unicode/utf8.first" firstData) (h4 : VarReads P w "unicode/utf8.acceptRanges" acceptData) : TabsW 0 1 w := by
 have key : ∀ {n : String} {d : DataW Unit} {g m : Nat} {t : TypeId} {e : TypeId} {q : Nat}, VarReads P w n d → P.globalNamed n = some g → (P.globals[g]?).map (·.type) = some t → P.underlying t = some (.array q e) → P.cellsOf t = m → ∃ arr e fz, w.heap[g]? = some (.cells arr e fz) ∧ arr.size = m := by
  intro n d g m t e q h hg hy hu hm
  obtain ⟨g', t', cs, fuel, p, e1, e2, e3, e4⟩ := h
  rw [hg] at e1
  have : g = g' := by simpa using e1
  subst this
  rw [hy] at e2
  have : t = t' := by simpa using e2
  subst this
  obtain ⟨_, _, _, _, hl, _, _⟩ := DataW.trod_array hu e4
  unfold World.var? at e3
  rw [hg] at e3
  simp only [Option.bind_some] at e3
  split at e3
  ·rename_i cs' e' fz hc
   have : cs' = cs := by simpa using e3
   subst this
   exact ⟨_, _, _, hc, by rw [← hm, ← hl]; simp⟩
  ·simp at e3
 exact ⟨utf8Tabs_of_readsT (U8Types.of196 Tryd.validS) u8x h3 h4, by decide, by unfold GG; decide, by unfold GG; decide,
  key h3 (g := 0) (t := T.y256_uint8_152) (by kernel_rfl) (by kernel_rfl) Tryd.underlying152 (by kernel_rfl),
  key h4 (g := 1) (t := T.y16_utf8_acceptRange_155) (by kernel_rfl) (by kernel_rfl) Tryd.underlying155 (by kernel_rfl)⟩
end
end Go.Eng.S

namespace Go.Eng.S
open Go Go.Eng Go.Proofs
set_option linter.constructorNameAsVariable false
noncomputable section
attribute [local irreducible] bsel
theorem named_ok {s0 s : St} {f : Nat} {B : Int → Nat} {o : Nat → Tg} {S : FoD} (h : Fo s0 s f B o S) (hid : ∀ i, i ∈ S.N → (S.pl i).n.id = i) {x : AV} {l : List Int} (hx : So (ptE B) s x l) (hl : ∀ i, i ∈ l → i ∈ S.N) (hsz : l.length ≤ 1000000) :
  CallsD P F.forest_named [x] s fun v s' => ∃ b, v = .slice b 0 l.length (.exact l.length) ∧ Room linkE s' b l.length l ∧ s.h.get b = none ∧ Frw [] s s' := by
 refine CallsD.fr fun hfr => vc.forest_named_ok (hx.sl.slen ?_)
 obtain ⟨s3, w3, n3⟩ := makeSlice_of (D := D) (t := T.sl_api_SpanID) (s := s) (k := .i64) (k' := .i64) (n := 0) (m := ((l.length : Nat) : Int)) ty.sl_api_SpanID rfl ty.api_SpanID rfl rfl (by omega) (by omega) (by omega) (by rw [Int.toNat_natCast]; unfold pow48; show 8 * l.length ≤ _; omega) hfr
 rw [Int.toNat_natCast] at w3 n3
 obtain ⟨b, hb⟩ : ∃ b, b = s.nx := ⟨_, rfl⟩
 rw [← hb] at w3 n3
 refine ⟨_, s3, w3, hx.sl.slen ?_⟩
 refine ⟨fun v n s' m => ∃ k : Nat, v = .slice b 0 k (.exact l.length) ∧ n = k ∧ m = l.length - k ∧ k ≤ l.length ∧ Room linkE s' b l.length (l.take k) ∧ Frw [] s s' ∧ Fr s',
  ⟨_, 0, rfl, rfl, rfl, by omega, .make n3 rfl, n3.fwd, n3.fr⟩, ?_⟩
 rintro _ _ s9 _ ⟨k, rfl, rfl, rfl, hk, hR, hf, hfr9⟩
 refine bsel_of (fun c => ?_) fun c => ?_
 ·have c : k < l.length := by simpa using c
  have hF := h.ext hf hfr9
  refine (hx.sl.ext hf).ixs rfl rfl c fun b1 o1 hr => ⟨_, hr.ld1 0 rfl, ?_⟩
  have hjN := hl _ (List.getElem_mem c)
  have htk : l.take (k + 1) = l.take k ++ [l[k]] := List.take_succ_eq_append_getElem c
  have hlk : (l.take k).length = k := by simp; omega
  generalize l[k] = j at hjN htk
  refine ptrK_of ⟨(S.pl j).n.id, (hF.pl j hjN).own.ld1 13 rfl, fun m17 s18 n18 => ?_⟩
  rw [hid j hjN] at n18
  obtain ⟨s20, w20, R20, f20, fr20, _⟩ := (hR.fwd n18.fwd (by simp)).app (D := D) (t := T.sl_api_SpanID) (a := j) (by rw [hlk]; exact c) ty.sl_api_SpanID rfl ty.api_SpanID rfl rfl rfl rfl n18.own.rd rfl (show ((l.take k).length + 1 + ((l.take k).length + 1) / 4 + 600) * 8 ≤ pow48 by rw [hlk]; unfold pow48; omega) (by rw [hlk]; unfold pow48; omega) n18.fr
  rw [hlk] at w20
  refine ⟨_, s20, w20, l.length - (k + 1), by omega, k + 1, rfl, wrap_i64 (by omega) (by omega), rfl, by omega, by rw [htk]; exact R20, ?_, fr20⟩
  refine (hf.trans n18.fwd).step f20 fun c hc => ?_
  have : c = b := by simpa using hc
  rw [this]; exact n3.gone
 ·have c : k = l.length := by simp at c; omega
  subst c
  rw [List.take_length] at hR
  exact ⟨b, rfl, hR, n3.gone, hf⟩
def OutL (s : St) (v : AV) (l : List Int) (s' : St) : Prop := Sl linkE s' v l ∧ Gone s v ∧ (v = .nilslice ∨ ∃ b, v = .slice b 0 l.length (.exact l.length) ∧ Room linkE s' b l.length l)
theorem Roots_ok {s0 s : St} {f : Nat} {B : Int → Nat} {o : Nat → Tg} {S : FoD} (h : Fo s0 s f B o S) (hid : ∀ i, i ∈ S.N → (S.pl i).n.id = i) (hl : ∀ i, i ∈ S.rl → i ∈ S.N) (hsz : S.rl.length ≤ 1000000) :
  CallsD P F.p_forest_Forest_Roots [.ptr f 0] s fun v s' => OutL s v S.rl s' ∧ Frw [] s s' := by
 refine vc.p_forest_Forest_Roots_ok (ptrK_of ⟨_, h.own.ld1 2 rfl, (named_ok h hid h.rts hl hsz).mono ?_⟩)
 rintro _ s5 ⟨b, rfl, hR, hg, hf⟩
 exact ⟨_, rfl, ⟨hR.sl, fun c hc => by have : c = b := by simpa [blkOf] using hc
                                       rw [this]; exact hg, .inr ⟨b, rfl, hR⟩⟩, hf⟩
def kidsOf (S : FoD) (i : Int) : List Int := if i ∈ S.N then (S.pl i).ks else []
theorem Children_ok {s0 s : St} {f : Nat} {B : Int → Nat} {o : Nat → Tg} {S : FoD} (h : Fo s0 s f B o S) (hT : TreeI S) (i : Int) :
  CallsD P F.p_forest_Forest_Children [.ptr f 0, .int .u64 i] s fun v s' => OutL s v (kidsOf S i) s' ∧ Frw [] s s' := by
 refine vc.p_forest_Forest_Children_ok ?_
 have hat : atV S B i = ptO B (if i ∈ S.N then some i else none) := by unfold atV; split <;> rfl
 refine ptrK_of ⟨_, h.own.ld1 0 rfl, _, h.look _, ?_⟩
 rw [hat]
 refine nilK_ptO (bsel_of (fun e => ?_) fun e => ?_)
 ·have hi : i ∈ S.N := by
   apply Classical.byContradiction
   intro hn
   rw [if_neg hn] at e
   simp at e
  rw [if_pos hi]
  refine ptrK_of ⟨_, (h.pl i hi).own.ld1 20 rfl, (named_ok h hT.hid (h.pl i hi).kids (fun j hj => (hT.kids i hi j hj).1) (by have := hT.len i hi; omega)).mono ?_⟩
  rintro _ s5 ⟨b, rfl, hR, hg, hf⟩
  unfold kidsOf
  rw [if_pos hi]
  exact ⟨_, rfl, ⟨hR.sl, fun c hc => by have : c = b := by simpa [blkOf] using hc
                                        rw [this]; exact hg, .inr ⟨b, rfl, hR⟩⟩, hf⟩
 ·have hi : i ∉ S.N := by
   intro hn
   rw [if_pos hn] at e
   simp at e
  unfold kidsOf
  rw [if_neg hi]
  exact ⟨⟨.nil _ _, .nil _, .inl rfl⟩, .refl _ _⟩
end
end Go.Eng.S

namespace Go.Eng.S
open Go Go.Eng Go.Proofs
set_option linter.constructorNameAsVariable false
noncomputable section
def preN (ks : Int → List Int) : Nat → List Int → List Int
 | 0, _ => []
 | k + 1, l => l.flatMap fun i => i :: preN ks k (ks i)
def FoD.kd (S : FoD) (i : Int) : List Int := (S.pl i).ks
def FoD.order (S : FoD) : List Int := preN S.kd S.N.length S.rl
def abN (S : FoD) : Nat → Int → List Int
 | 0, _ => []
 | k + 1, i => if i ∈ S.N ∧ (S.pl i).n.org = 0 then (S.C i).par :: abN S k (S.C i).par else []
def FoD.upO (S : FoD) : UF := upI S.C (fun i => (S.pl i).n.org) S.N
theorem abN_stable {S : FoD} (hT : TreeI S) : ∀ (k : Nat) (i : Int), itU S.upO k i = none → ∀ m, k ≤ m → abN S m i = abN S k i
 | 0, i, h, _, _ => by simp [itU] at h
 | k + 1, i, h, m, hm => by
  obtain ⟨m, rfl⟩ : ∃ m', m = m' + 1 := ⟨m - 1, by omega⟩
  simp only [abN]
  by_cases hg : i ∈ S.N ∧ (S.pl i).n.org = 0
  ·rw [if_pos hg, if_pos hg]
   have hp := (hT.all i hg.1 hg.2).1
   have hu : S.upO i = some (S.C i).par := by
    unfold FoD.upO upI upC
    rw [if_pos hg, if_pos hp]
   simp only [itU, hu, Option.bind_some] at h
   rw [abN_stable hT k _ h m (by omega)]
  ·rw [if_neg hg, if_neg hg]
def FoD.above (S : FoD) (i : Int) : List Int := abN S S.N.length i
end
end Go.Eng.S

