/-
  A forest is gone through: down, up.
  All nodes of a forest, the IDs above a span: as lists.
  A forest's spans, each ahead of those beneath it: each once. Plain.
  Two spans, two lists of IDs that are one; spans in another order.
  A forest hangs on the set of spans: plain; 'ForestAlone'.
  'ForestAlone': the walk.
-/
import Derived.Test.YtapfgpnolcjbbaaDoorSGftoSGs
import Derived.Test.YtapfgpnolcjbbaaDoorSVhdtoSVhf
import Derived.Test.YtapfgpnolcjbbaaDoorW15to28
set_option linter.unusedVariables false
set_option linter.unusedSimpArgs false
namespace Go.Eng.S
open Go Go.Eng Go.Proofs
set_option linter.constructorNameAsVariable false
noncomputable section
attribute [local irreducible] bsel
def preN (ks : Int → List Int) : Nat → List Int → List Int
 | 0, _ => []
 | k + 1, l => l.flatMap fun i => i :: preN ks k (ks i)
def FoD.kd (S : FoD) (i : Int) : List Int := (S.pl i).ks
def tellV (m1 m3 : Nat) : AV := .func F.p_forest_Forest_Down_S1_S1 [] [.ptr m1 0, .ptr m3 0]
theorem get_tell : D.fn.get F.p_forest_Forest_Down_S1_S1 = some (fnI Tryd.f41) := by kernel_rfl
theorem rt_tell : rt F.p_forest_Forest_Down_S1_S1 = [T.ybool_4] := by kernel_rfl
theorem ty_bool : D.ty.get T.ybool_4 = some { d := .bool, size := 1, bytes := 1, zero := some (.bool false), held := false } := by kernel_rfl
theorem exRes_bool {K : AV → Prop} {c : Bool} (h : K (.bool c)) : exRes D [T.ybool_4] K := by
 unfold exRes exTs exT
 rw [ty_bool]
 exact ⟨c, h⟩
attribute [local irreducible] exRes
theorem callK_tell {m1 m3 : Nat} {a : AV} {s : St} {K : AV → St → Prop} (h : CallsD P F.p_forest_Forest_Down_S1_S1 [a, .ptr m1 0, .ptr m3 0] s fun v s' => ∃ c : Bool, v = .bool c ∧ K (.bool c) s') : callK P D rt true s (tellV m1 m3) [a] K := by
 have key : ∀ v s', (∃ c : Bool, v = .bool c ∧ K (.bool c) s') → exRes D [T.ybool_4] fun u => v = u ∧ K u s' := by
  intro v s' hv
  obtain ⟨c, e, hk⟩ := hv
  rw [e]
  exact exRes_bool (K := fun u => AV.bool c = u ∧ K u s') (c := c) ⟨rfl, hk⟩
 have h2 := h.mono key
 unfold tellV callK
 dsimp only
 unfold fnK
 rw [get_tell]
 dsimp only
 rw [rt_tell]
 exact h2
section
variable {s0 sb : St} {f : Nat} {B : Int → Nat} {o : Nat → Tg} {S : FoD} {M : List Nat} {l0 m1 m3 n : Nat} {arg : Nat → List AV} {J : Nat → St → Prop} {Z : St → Prop}
def RoundsD (P : Program) (M : List Nat) (sb : St) (l0 m1 m3 n : Nat) (arg : Nat → List AV) (J : Nat → St → Prop) (Z : St → Prop) : Prop :=
 ∀ i s1, i < n → J i s1 → s1.h.get m1 ≠ none → s1.h.get m3 ≠ none → Frw M sb s1 → Fr s1 →
  RoundD P l0 (arg i) s1 fun v s2 => (Frw M sb s2 ∧ Fr s2 ∧ s2.h.get m1 = s1.h.get m1 ∧ s2.h.get m3 = s1.h.get m3) ∧ ((v = .bool true ∧ J (i + 1) s2) ∨ (v = .bool false ∧ Z s2))
set_option maxHeartbeats 1000000 in
set_option maxRecDepth 10000 in
theorem tell_ok (hF : Fo s0 sb f B o S) (hM : ∀ m, m ∈ M → 7 ≤ (o m).1) (hM0 : ∀ m, m ∈ M → s0.h.get m = none) (hT : TreeI S) (hr : RoundsD P M sb l0 m1 m3 n arg J Z) (hst : ∀ i s1 s2, J i s1 → Frw [] s1 s2 → J i s2) :
  ∀ (fuel : Nat) (anc l : List Int) (x : AV) (s : St) (i0 : Nat), anc.Nodup → (∀ i, i ∈ anc → i ∈ S.N) → S.N.length ≤ anc.length + fuel → (∀ i, i ∈ l → i ∈ S.N ∧ AncOk S (i :: anc) ∧ i ∉ anc) → So (ptE B) sb x l → (∀ c, c ∈ blkOf x → (o c).1 < 7) → l.length < 1000000 →
   (∀ q (h : q < (preN S.kd fuel l).length), i0 + q < n ∧ arg (i0 + q) = [.agg (S.pl (preN S.kd fuel l)[q]).n.cells]) →
   Frw M sb s → Fr s → Own s m1 [.yld l0] → Own s m3 [tellV m1 m3] → J i0 s →
   CallsD P F.p_forest_Forest_Down_S1_S1 [x, .ptr m1 0, .ptr m3 0] s fun v s' => (Frw M sb s' ∧ Fr s' ∧ Own s' m1 [.yld l0] ∧ Own s' m3 [tellV m1 m3]) ∧ ((v = .bool true ∧ J (i0 + (preN S.kd fuel l).length) s') ∨ (v = .bool false ∧ Z s')) := by
 intro fuel
 induction fuel with
 | zero =>
  intro anc l x s i0 hnd hN hfu hl hx hxt hsz harg hf hfr o1 o3 hJ
  have hnil : l = [] := by
   cases l with
   | nil => rfl
   | cons i r =>
    obtain ⟨h1, h2, h3⟩ := hl i (List.mem_cons_self ..)
    have := nodup_len (l := i :: anc) (List.nodup_cons.2 ⟨h3, hnd⟩) (fun y hy => by
     rcases List.mem_cons.1 hy with rfl | hy
     ·exact h1
     ·exact hN y hy)
    simp only [List.length_cons] at this
    omega
  subst hnil
  refine vc.p_forest_Forest_Down_S1_S1_ok ((Sl.fwdM hx.sl hf fun m hm hc => by have := hM m hm; have := hxt m hc; omega).slen ⟨fun k s' _ => k = 0 ∧ s' = s, ⟨0, rfl, rfl⟩, ?_⟩)
  rintro _ _ _ ⟨rfl, rfl⟩
  exact bsel_of (fun c => by simp at c) fun _ => ⟨⟨hf, hfr, o1, o3⟩, .inl ⟨rfl, hJ⟩⟩
 | succ fuel ih =>
  intro anc l x s i0 hnd hN hfu hl hx hxt hsz harg hf hfr o1 o3 hJ
  refine vc.p_forest_Forest_Down_S1_S1_ok ((Sl.fwdM hx.sl hf fun m hm hc => by have := hM m hm; have := hxt m hc; omega).slen ?_)
  refine ⟨fun k s' m => ∃ q : Nat, k = q ∧ m = l.length - q ∧ q ≤ l.length ∧ Frw M sb s' ∧ Fr s' ∧ Own s' m1 [.yld l0] ∧ Own s' m3 [tellV m1 m3] ∧ J (i0 + (preN S.kd (fuel + 1) (l.take q)).length) s',
   ⟨_, 0, rfl, rfl, by omega, hf, hfr, o1, o3, by simpa [preN] using hJ⟩, ?_⟩
  rintro _ s5 _ ⟨q, rfl, rfl, hq, hf5, hfr5, o15, o35, hJ5⟩
  refine bsel_of (fun c => ?_) fun c => ?_
  ·have c : q < l.length := by simpa using c
   have htk : l.take (q + 1) = l.take q ++ [l[q]] := List.take_succ_eq_append_getElem c
   have hsp : preN S.kd (fuel + 1) l = preN S.kd (fuel + 1) (l.take q) ++ (l[q] :: preN S.kd fuel (S.kd l[q])) ++ preN S.kd (fuel + 1) (l.drop (q + 1)) := by
    have e : l = l.take q ++ l[q] :: l.drop (q + 1) := by rw [← List.drop_eq_getElem_cons c, List.take_append_drop]
    have e2 := congrArg (preN S.kd (fuel + 1)) e
    rw [e2]
    simp only [preN, List.flatMap_append, List.flatMap_cons, List.append_assoc, List.cons_append]
   have hnx : preN S.kd (fuel + 1) (l.take (q + 1)) = preN S.kd (fuel + 1) (l.take q) ++ (l[q] :: preN S.kd fuel (S.kd l[q])) := by
    rw [htk]
    simp only [preN, List.flatMap_append, List.flatMap_cons, List.flatMap_nil, List.append_nil]
   obtain ⟨hjN, hjA, hja⟩ := hl _ (List.getElem_mem c)
   refine (Sl.fwdM hx.sl hf5 fun m hm hc => by have := hM m hm; have := hxt m hc; omega).ixs rfl rfl c fun b o' hr' => ⟨_, hr'.ld1 0 rfl, ?_⟩
   generalize l[q] = j at hsp hnx hjN hjA hja
   generalize hA : preN S.kd (fuel + 1) (l.take q) = A at hsp hnx hJ5
   intro s10 b10
   have hf10 := hf5.x b10.fwd
   have o110 := o15.ext b10.fwd
   have o310 := o35.ext b10.fwd
   have hF10 := hF.beside hf10 b10.fr hM hM0
   have hp := hF10.pl j hjN
   have ha0 := harg A.length (by rw [hsp]; simp only [List.length_append, List.length_cons]; omega)
   have e0 : (preN S.kd (fuel + 1) l)[A.length]'(by rw [hsp]; simp only [List.length_append, List.length_cons]; omega) = j := by simp [hsp]
   rw [e0] at ha0
   refine ⟨_, o110.ld1 0 rfl, ptrK_of ⟨_, _, _, _, _, _, _, hp.own.ldN 13 7 (by simp [Pl.cells, SpX.cells, Nd.cells]), callK_yldD ?_⟩⟩
   have hrd := hr (i0 + A.length) s10 ha0.1 (hst _ _ _ hJ5 b10.fwd) o110.there o310.there hf10 b10.fr
   rw [ha0.2] at hrd
   refine hrd.mono ?_
   rintro v s22 ⟨⟨f22, fr22, e1, e3⟩, hv⟩
   have o122 := o110.same e1
   have o322 := o310.same e3
   have hF22 := hF.beside f22 fr22 hM hM0
   rcases hv with ⟨rfl, hJ22⟩ | ⟨rfl, hZ⟩
   ·refine ⟨true, rfl, bsel_of (fun c => by simp at c) fun _ => ?_⟩
    have hp22 := hF22.pl j hjN
    refine ⟨_, o322.ld1 0 rfl, ptrK_of ⟨_, hp22.own.ld1 20 rfl, callK_tell ?_⟩⟩
    have hkl := hT.len j hjN
    refine (ih (j :: anc) (S.kd j) (S.pl j).k s22 (i0 + A.length + 1) (List.nodup_cons.2 ⟨hja, hnd⟩) (fun y hy => by
     rcases List.mem_cons.1 hy with rfl | hy
     ·exact hjN
     ·exact hN y hy) (by simp only [List.length_cons]; omega) (fun y hy => ?_) (hF.pl j hjN).kids (fun c hc => by rw [(hF.pl j hjN).tk c hc]; exact (by decide : (5 : Nat) < 7)) hkl (fun p hp' => ?_) f22 fr22 o122 o322 hJ22).mono ?_
    ·obtain ⟨k1, k2⟩ := hjA.notin hT hjN hy
     exact ⟨(hT.kids j hjN y hy).1, k2, k1⟩
    ·have hlt : A.length + 1 + p < (preN S.kd (fuel + 1) l).length := by rw [hsp]; simp; omega
     have := harg (A.length + 1 + p) hlt
     have e : (preN S.kd (fuel + 1) l)[A.length + 1 + p] = (preN S.kd fuel (S.kd j))[p] := by
      simp only [hsp]
      rw [List.getElem_append_left (by simp; omega), List.getElem_append_right (by omega)]
      simp [show A.length + 1 + p - A.length = p + 1 by omega]
     rw [e] at this
     rw [show i0 + A.length + 1 + p = i0 + (A.length + 1 + p) by omega]
     exact this
    ·rintro v s29 ⟨⟨f29, fr29, o129, o329⟩, hv⟩
     rcases hv with ⟨rfl, hJ29⟩ | ⟨rfl, hZ⟩
     ·refine ⟨true, rfl, true, rfl, bsel_of (fun c => by simp at c) fun _ => ⟨l.length - (q + 1), by omega, q + 1, wrap_i64 (by omega) (by omega), rfl, by omega, f29, fr29, o129, o329, ?_⟩⟩
      rw [hnx]
      have e : i0 + (A ++ j :: preN S.kd fuel (S.kd j)).length = i0 + A.length + 1 + (preN S.kd fuel (S.kd j)).length := by simp; omega
      rw [e]; exact hJ29
     ·exact ⟨false, rfl, false, rfl, bsel_of (fun _ => ⟨⟨f29, fr29, o129, o329⟩, .inr ⟨rfl, hZ⟩⟩) fun c => by simp at c⟩
   ·exact ⟨false, rfl, bsel_of (fun _ => ⟨⟨f22, fr22, o122, o322⟩, .inr ⟨rfl, hZ⟩⟩) fun c => by simp at c⟩
  ·have c : q = l.length := by simp at c; omega
   subst c
   rw [List.take_length] at hJ5
   exact ⟨⟨hf5, hfr5, o15, o35⟩, .inl ⟨rfl, hJ5⟩⟩
end
def FoD.order (S : FoD) : List Int := preN S.kd S.N.length S.rl
theorem get_Down1 : D.fn.get F.p_forest_Forest_Down_S1 = some (fnI Tryd.f40) := by kernel_rfl
set_option maxHeartbeats 1000000 in
set_option maxRecDepth 10000 in
theorem Down_it {s0 s : St} {f : Nat} {B : Int → Nat} {o : Nat → Tg} {S : FoD} (h : Fo s0 s f B o S) (hT : TreeI S) (hrl : ∀ i, i ∈ S.rl → i ∈ S.N ∧ (S.pl i).n.org ≠ 0) (hsz : S.rl.length < 1000000) {M : List Nat} (hM : ∀ m, m ∈ M → 7 ≤ (o m).1 ∧ s0.h.get m = none ∧ s.h.get m ≠ none) :
  CallsD P F.p_forest_Forest_Down [.ptr f 0] s fun v s' => SeqD P D M s' v S.order.length (fun i => [.agg (S.pl (S.order.getD i 0)).n.cells]) ∧ Frw [] s s' := by
 refine vc.p_forest_Forest_Down_ok (oneK_ptr fun m s2 n2 => ⟨?_, n2.fwd⟩)
 have h2 := h.ext n2.fwd n2.fr
 have om : Own s2 m [.ptr f 0] := n2.own
 have hmM : m ∉ M := fun hm => (hM m hm).2.2 n2.gone
 intro l st J Z K hst hfst hJ0 hro hstab hK
 refine itKD_of get_Down1 ?_
 show CallsD P F.p_forest_Forest_Down_S1 [.yld l, .ptr m 0] st _
 refine vc.p_forest_Forest_Down_S1_ok ?_
 show ∀ m1 s3, NewO st (cellsO [.yld l]) m1 s3 → _
 intro m1 s3 n3 m3 s4 n4
 obtain ⟨s5, w5, o5, f5, fr5⟩ := n4.put [tellV m1 m3] rfl rfl
 have hne : m1 ≠ m3 := n4.ne n3.own.there
 have hf5 : Frw [] st s5 := n3.fwd.trans f5
 refine ⟨s5, w5, fun s6 b6 => ?_⟩
 have hf6 : Frw [] st s6 := hf5.trans b6.fwd
 have F6 : Frw M s2 s6 := hst.x hf6
 have hF6 := h2.beside F6 b6.fr (fun m hm => (hM m hm).1) (fun m hm => (hM m hm).2.1)
 have o16 : Own s6 m1 [.yld l] := (n3.own.ext f5).ext b6.fwd
 have o36 : Own s6 m3 [tellV m1 m3] := o5.ext b6.fwd
 let U : Nat → Prop := fun c => c = m1 ∨ c = m3
 have hU : ∀ c, U c → st.h.get c = none := by
  rintro c (rfl | rfl)
  ·exact n3.gone
  ·exact n3.fwd.none n4.gone (by simp)
 refine ⟨_, o36.ld1 0 rfl, _, (om.fwd F6 hmM).ld1 0 rfl, ptrK_of ⟨_, hF6.own.ld1 2 rfl, callK_tell ?_⟩⟩
 refine (tell_ok (n := S.order.length) (J := J U) (Z := Z) (arg := fun i => [.agg (S.pl (S.order.getD i 0)).n.cells]) h2 (fun m hm => (hM m hm).1) (fun m hm => (hM m hm).2.1) hT (fun i s1 hi hJ t1 t3 hf hfr => ?_) (hstab U) S.N.length [] S.rl S.rts s6 0 (by simp) (by simp) (by simp) (fun i hi => ?_) h2.rts (fun c hc => by rw [h2.tr c hc]; exact (by decide : (3 : Nat) < 7)) hsz (fun q hq => ?_) F6 b6.fr o16 o36 (hJ0 U s6 hU hf6)).mono ?_
 ·refine (hro U i s1 hi hJ (fun c hc => ⟨hU c hc, ?_⟩) hf hfr).mono fun v s' ⟨⟨g1, g2, g3⟩, g4⟩ => ⟨⟨g1, g2, g3 _ (.inl rfl), g3 _ (.inr rfl)⟩, g4⟩
  rcases hc with rfl | rfl
  ·exact t1
  ·exact t3
 ·obtain ⟨k1, k2⟩ := hrl i hi
  exact ⟨k1, k2, by simp⟩
 ·refine ⟨by rw [Nat.zero_add]; exact hq, ?_⟩
  rw [Nat.zero_add]
  have e : S.order.getD q 0 = (preN S.kd S.N.length S.rl)[q] := getD_lt (l := S.order) hq
  show [AV.agg (S.pl (S.order.getD q 0)).n.cells] = _
  rw [e]
 ·rintro v s13 ⟨⟨g1, g2, _, _⟩, hv⟩
  rcases hv with ⟨rfl, hv⟩ | ⟨rfl, hv⟩
  ·rw [Nat.zero_add] at hv
   exact ⟨true, rfl, true, rfl, hK U _ (.inl hv) g1 g2⟩
  ·exact ⟨false, rfl, false, rfl, hK U _ (.inr hv) g1 g2⟩
def abN (S : FoD) : Nat → Int → List Int
 | 0, _ => []
 | k + 1, i => if i ∈ S.N ∧ (S.pl i).n.org = 0 then (S.C i).par :: abN S k (S.C i).par else []
def FoD.upO (S : FoD) : UF := upI S.C (fun i => (S.pl i).n.org) S.N
theorem abN_stable {S : FoD} (hT : TreeI S) : ∀ (k : Nat) (i : Int), itU S.upO k i = none → ∀ m, k ≤ m → abN S m i = abN S k i
 | 0, i, h, _, _ => by simp [itU] at h
 | k + 1, i, h, m, hm => by
  obtain ⟨m, rfl⟩ : ∃ m', m = m' + 1 := ⟨m - 1, by omega⟩
  simp only [abN]
  by_cases hg : i ∈ S.N ∧ (S.pl i).n.org = 0
  ·rw [if_pos hg, if_pos hg]
   have hp := (hT.all i hg.1 hg.2).1
   have hu : S.upO i = some (S.C i).par := by
    unfold FoD.upO upI upC
    rw [if_pos hg, if_pos hp]
   simp only [itU, hu, Option.bind_some] at h
   rw [abN_stable hT k _ h m (by omega)]
  ·rw [if_neg hg, if_neg hg]
def FoD.above (S : FoD) (i : Int) : List Int := abN S S.N.length i
end
end Go.Eng.S

namespace Go.Eng.S
open Go Go.Eng Go.Proofs
set_option linter.constructorNameAsVariable false
noncomputable section
attribute [local irreducible] bsel
def nodeE : Enc Nd := ⟨Nd.cells, 7, by decide, fun _ => rfl⟩
theorem Frw.same {M : List Nat} {s s' : St} (h : Frw M s s') {c : Nat} (hc : c ∉ M) (ht : s.h.get c ≠ none) : s'.h.get c = s.h.get c := by
 cases hx : s.h.get c with
 | none => exact absurd hx ht
 | some ob => exact h.1 c ob hc hx
theorem notin1 {m : Nat} {l : List Nat} (h : m ∉ l) : ∀ c, c ∈ [m] → c ∉ l := fun c hc => by rw [List.mem_singleton.1 hc]; exact h
theorem objAt_there {s : St} {b : Nat} {o : AObj} (h : objAt s b = some o) : s.h.get b ≠ none := by
 unfold objAt at h; rw [h]; simp
set_option maxHeartbeats 2000000 in
set_option maxRecDepth 10000 in
theorem nodes_ok {s0 s : St} {f : Nat} {B : Int → Nat} {o : Nat → Tg} {S : FoD} (h : Fo s0 s f B o S) (hT : TreeI S) (hrl : ∀ i, i ∈ S.rl → i ∈ S.N ∧ (S.pl i).n.org ≠ 0) (hsz : S.rl.length < 1000000) (hlen : S.order.length ≤ 1000000) :
  CallsD P F.spoorlaw10_nodes [.ptr f 0] s fun v s' => So nodeE s' v (S.order.map fun i => (S.pl i).n) ∧ Gone s v ∧ Frw [] s s' := by
 refine vc.spoorlaw10_nodes_ok ?_
 intro m1 s2 n2
 have h2 := (h.tag n2.gone (8, 2)).ext n2.fwd n2.fr
 have hg1 : s0.h.get m1 = none := h.fwd.none n2.gone (by simp)
 refine (CallsD.of fun _ => Down_it (M := [m1]) h2 hT hrl hsz ?_).mono ?_
 ·intro m hm
  have : m = m1 := by simpa using hm
  rw [this]
  exact ⟨by rw [updF_same]; exact (by decide : 7 ≤ 8), hg1, n2.own.there⟩
 rintro x3 s4 ⟨⟨hseq, f4⟩, fr4⟩
 refine ⟨_, rfl, fun m6 s7 n7 I8 m9 s10 n10 hro => ?_⟩
 have f410 : Frw [] s4 s10 := n7.fwd.trans n10.fwd
 have o14 : Own s4 m1 [.nilslice] := n2.own.ext f4
 have o110 : Own s10 m1 [.nilslice] := o14.ext f410
 have t9 : objAt s10 m9 = some (I8 none .ready) := n10.at
 have t6 : objAt s10 m6 = some (.dfd true) := objAt_fwd n7.at n10.fwd (by simp)
 have ne91 : m9 ≠ m1 := (n10.ne ((o14.ext n7.fwd).there)).symm
 have ne61 : m6 ≠ m1 := (n7.ne o14.there).symm
 have ne69 : m6 ≠ m9 := n10.ne (objAt_there n7.at)
 have g9 : s4.h.get m9 = none := n7.fwd.none n10.gone (by simp)
 have g6 : s4.h.get m6 = none := n7.gone
 refine hseq m9 s10 (fun U i s' => objAt s' m9 = some (I8 none .ready) ∧ objAt s' m6 = some (.dfd true) ∧ Frw [m1, m9] s10 s' ∧ ∃ x, Own s' m1 [x] ∧ So nodeE s' x ((S.order.take i).map fun i => (S.pl i).n) ∧ ∀ c, c ∈ blkOf x → ¬ U c ∧ s10.h.get c = none) (fun _ => False) _ (f410.mono (by simp)) n10.fr ?_ ?_ ?_ ?_
 ·intro U s1 _ hf
  exact ⟨objAt_fwd t9 hf (by simp), objAt_fwd t6 hf (by simp), hf.mono (by simp), .nilslice, o110.ext hf, .nil _ _, by simp [blkOf]⟩
 ·rintro U i s1 hi ⟨h9, h6, hk, x, ox, hx, hxb⟩ hU hf1 hfr1
  have xb1 : m1 ∉ blkOf x := fun hc => o110.there (hxb _ hc).2
  have xb9 : m9 ∉ blkOf x := fun hc => objAt_there t9 (hxb _ hc).2
  have xb6 : m6 ∉ blkOf x := fun hc => objAt_there t6 (hxb _ hc).2
  generalize hnd : (S.pl (S.order.getD i 0)).n = nd
  have hnd' : (S.order.take (i + 1)).map (fun i => (S.pl i).n) = (S.order.take i).map (fun i => (S.pl i).n) ++ [nd] := by
   rw [List.take_succ_eq_append_getElem hi, List.map_append, ← hnd, getD_lt hi]; rfl
  have hl1 : ((S.order.take i).map fun i => (S.pl i).n).length ≤ 1000000 := by simp; omega
  show RoundD P m9 [.agg (S.pl (S.order.getD i 0)).n.cells] s1 _
  rw [hnd]
  refine hro nd.id nd.par nd.org nd.tree nd.depth nd.fr nd.till s1 _ h9 fun m20 s21 n20 => ?_
  obtain ⟨s22, w22, o22, f22, fr22⟩ := n20.put nd.cells rfl rfl
  have h922 := objAt_fwd h9 f22 (by simp)
  obtain ⟨s23, hs23⟩ : ∃ s23, s23 = hsetS s22 m9 (I8 none .busy) := ⟨_, rfl⟩
  have f23 : Frw [m9] s22 s23 := hs23 ▸ hsetS_frw
  have fr23 : Fr s23 := hs23 ▸ objAt_fr h922 fr22
  have n209 : m20 ≠ m9 := (n20.ne (objAt_there h9)).symm
  have ox23 : Own s23 m1 [x] := (ox.ext f22).fwd f23 (by simpa using ne91.symm)
  refine ⟨s22, w22, h922, ?_⟩
  rw [← hs23]
  refine ⟨x, ox23.ld1 0 rfl, _, _, _, _, _, _, _, (o22.fwd f23 (by simpa using n209)).all rfl, fun m31 s32 n32 => ?_⟩
  have hx32 : So nodeE s32 x ((S.order.take i).map fun i => (S.pl i).n) := ((hx.ext f22).beside f23 (notin1 xb9)).ext n32.fwd
  obtain ⟨v, s34, w34, so34, f34, bv, fr34, _⟩ := hx32.append' (D := D) (t := T.sl_api_Node) (a := nd) (e := nd.cells) ty.sl_api_Node rfl ty.api_Node rfl rfl rfl rfl n32.own.rd rfl (show (((S.order.take i).map fun i => (S.pl i).n).length + 1 + (((S.order.take i).map fun i => (S.pl i).n).length + 1) / 4 + 600) * 56 ≤ pow48 by unfold pow48; omega) (by unfold pow48; omega) n32.fr
  have ox34 : Own s34 m1 [x] := (ox23.ext n32.fwd).fwd f34 xb1
  obtain ⟨s35, w35, o35, f35, fr35⟩ := wr_own1 ox34 fr34 0 v (ones_so so34) (by simp)
  have h923 : objAt s23 m9 = some (I8 none .busy) := hs23 ▸ objAt_set
  have h935 : objAt s35 m9 = some (I8 none .busy) := objAt_fwd (objAt_fwd (objAt_fwd h923 n32.fwd (by simp)) f34 xb9) f35 (by simpa using ne91)
  refine ⟨v, s34, w34, so34.sl.one ⟨s35, w35, h935, ?_⟩⟩
  obtain ⟨s36, hs36⟩ : ∃ s36, s36 = hsetS s35 m9 (I8 none .ready) := ⟨_, rfl⟩
  rw [← hs36]
  have f36 : Frw [m9] s35 s36 := hs36 ▸ hsetS_frw
  have fr36 : Fr s36 := hs36 ▸ objAt_fr h935 fr35
  have key : ∀ {M : List Nat} {a b : St}, Frw M a b → (∀ c, c ∈ M → c ∈ m9 :: m1 :: blkOf x) → Frw (m9 :: m1 :: blkOf x) a b := fun h hm => h.mono hm
  have F : Frw (m9 :: m1 :: blkOf x) s1 s36 := ((((key f22 (by simp)).trans (key f23 (by simp))).trans (key n32.fwd (by simp))).trans (key f34 (by simp +contextual))).trans ((key f35 (by simp)).trans (key f36 (by simp)))
  have F410 : ∀ c, s10.h.get c = none → s4.h.get c = none := fun c hc => f410.none hc (by simp)
  have F1 : Frw [m1] s4 s36 := hf1.go F fun c hc => by
   rcases List.mem_cons.1 hc with rfl | hc
   ·exact .inr g9
   ·rcases List.mem_cons.1 hc with rfl | hc
    ·exact .inl (by simp)
    ·exact .inr (F410 c (hxb c hc).2)
  have F2 : Frw [m1, m9] s10 s36 := hk.go F fun c hc => by
   rcases List.mem_cons.1 hc with rfl | hc
   ·exact .inl (by simp)
   ·rcases List.mem_cons.1 hc with rfl | hc
    ·exact .inl (by simp)
    ·exact .inr (hxb c hc).2
  have hvb : ∀ c, c ∈ blkOf v → s32.h.get c = none ∧ c ≠ m9 ∧ c ≠ m1 := fun c hc => by
   rw [bv] at hc
   have : c = s32.nx := by simpa using hc
   rw [this]
   have hn : s32.h.get s32.nx = none := n32.fr _ (Nat.le_refl _)
   exact ⟨hn, fun e => objAt_there (objAt_fwd h923 n32.fwd (by simp)) (e ▸ hn), fun e => (ox23.ext n32.fwd).there (e ▸ hn)⟩
  refine ⟨⟨F1, fr36, fun c hc => ?_⟩, .inl ⟨rfl, hs36 ▸ objAt_set, ?_, F2, v, o35.fwd f36 (by simpa using ne91.symm), ?_, fun c hc => ?_⟩⟩
  ·obtain ⟨u1, u2⟩ := hU c hc
   refine Frw.same F (fun hm => ?_) u2
   rcases List.mem_cons.1 hm with rfl | hm
   ·exact objAt_there t9 u1
   ·rcases List.mem_cons.1 hm with rfl | hm
    ·exact o110.there u1
    ·exact (hxb c hm).1 hc
  ·refine objAt_fwd h6 F fun hm => ?_
   rcases List.mem_cons.1 hm with e | hm
   ·exact ne69 e
   ·rcases List.mem_cons.1 hm with e | hm
    ·exact ne61 e
    ·exact xb6 hm
  ·rw [hnd']
   exact (so34.beside f35 fun c hc hcv => (hvb c hcv).2.2 (by simpa using hc)).beside f36 fun c hc hcv => (hvb c hcv).2.1 (by simpa using hc)
  ·obtain ⟨v1, v2, v3⟩ := hvb c hc
   have F32 : Frw [m9] s1 s32 := ((f22.mono (by simp)).trans f23).trans (n32.fwd.mono (by simp))
   have v4 : s1.h.get c = none := F32.none v1 (by simpa using v2)
   exact ⟨fun hu => (hU c hu).2 v4, hk.none v4 (by simp [v2, v3])⟩
 ·rintro U i s1 s2' ⟨h9, h6, hk, x, ox, hx, hxb⟩ hf
  exact ⟨objAt_fwd h9 hf (by simp), objAt_fwd h6 hf (by simp), hk.x hf, x, ox.ext hf, hx.ext hf, hxb⟩
 ·rintro U s1 (⟨h9, h6, hk, x, ox, hx, hxb⟩ | hz) hf1 hfr1
  ·have xb9 : m9 ∉ blkOf x := fun hc => objAt_there t9 (hxb _ hc).2
   have xb6 : m6 ∉ blkOf x := fun hc => objAt_there t6 (hxb _ hc).2
   have f39 : Frw [m9] s1 (hsetS s1 m9 (I8 none .exhausted)) := hsetS_frw
   have h639 : objAt (hsetS s1 m9 (I8 none .exhausted)) m6 = some (.dfd true) := (objAt_ne ne69).trans h6
   refine ⟨h9, x, (ox.fwd f39 (by simpa using ne91.symm)).ld1 0 rfl, _, endDs_one h639, ?_⟩
   have f40 : Frw [m6] (hsetS s1 m9 (I8 none .exhausted)) (hsetS (hsetS s1 m9 (I8 none .exhausted)) m6 (.dfd false)) := hsetS_frw
   rw [List.take_length] at hx
   have fs4 : Frw [] s s4 := n2.fwd.trans f4
   refine ⟨(hx.beside f39 (notin1 xb9)).beside f40 (notin1 xb6), fun c hc => (fs4.trans f410).none (hxb c hc).2 (by simp), ?_⟩
   refine ((fs4.go hf1 fun c hc => ?_).go f39 fun c hc => ?_).go f40 fun c hc => ?_
   ·have : c = m1 := by simpa using hc
    rw [this]; exact .inr n2.gone
   ·have : c = m9 := by simpa using hc
    rw [this]; exact .inr (fs4.none g9 (by simp))
   ·have : c = m6 := by simpa using hc
    rw [this]; exact .inr (fs4.none g6 (by simp))
  ·exact hz.elim
end
end Go.Eng.S

namespace Go.Eng.S
open Go Go.Eng Go.Proofs
set_option linter.constructorNameAsVariable false
noncomputable section
variable {S : FoD} {cs : List SpC}
theorem above_inner (hT : TreeI S) {i : Int} (hi : i ∈ S.N) (hg : (S.pl i).n.org = 0) : S.above i = (S.C i).par :: S.above (S.C i).par := by
 have h := ends_at (fun x y h => (upI_in (C := S.C) (g := fun i => (S.pl i).n.org) (N := S.N) x y h).2.2.2) (upI_acy fun x hx => hT.acy x hx) hi
 have hp := (hT.all i hi hg).1
 have hu : S.upO i = some (S.C i).par := by
  unfold FoD.upO upI upC
  rw [if_pos ⟨hi, hg⟩, if_pos hp]
 have h0 : 0 < S.N.length := List.length_pos_of_mem hi
 obtain ⟨k, hk⟩ : ∃ k, S.N.length = k + 1 := ⟨S.N.length - 1, by omega⟩
 unfold FoD.above
 rw [hk] at h ⊢
 have h2 : itU S.upO (k + 1) i = none := h
 simp only [itU, hu, Option.bind_some] at h2
 rw [abN_stable hT k _ h2 (k + 1) (by omega)]
 simp only [abN]
 rw [if_pos ⟨hi, hg⟩]
theorem above_root {i : Int} (hg : ¬ (i ∈ S.N ∧ (S.pl i).n.org = 0)) : S.above i = [] := by
 unfold FoD.above
 cases S.N.length with
 | zero => rfl
 | succ k => simp only [abN]; rw [if_neg hg]
theorem above_kid (hT : TreeI S) {i j : Int} (hi : i ∈ S.N) (hj : j ∈ S.kd i) : S.above j = i :: S.above i := by
 obtain ⟨h1, h2, h3⟩ := hT.kids i hi j hj
 rw [above_inner hT h1 h2, h3]
theorem abN_len {hT : TreeI S} : ∀ (k : Nat) (i : Int), itU S.upO k i = none → (abN S k i).length < k
 | 0, i, h => by simp [itU] at h
 | k + 1, i, h => by
  simp only [abN]
  by_cases hg : i ∈ S.N ∧ (S.pl i).n.org = 0
  ·rw [if_pos hg]
   have hp := (hT.all i hg.1 hg.2).1
   have hu : S.upO i = some (S.C i).par := by
    unfold FoD.upO upI upC
    rw [if_pos hg, if_pos hp]
   simp only [itU, hu, Option.bind_some] at h
   have := abN_len (hT := hT) k _ h
   simp only [List.length_cons]; omega
  ·rw [if_neg hg]; simp
theorem above_len (hT : TreeI S) {i : Int} (hi : i ∈ S.N) : (S.above i).length < S.N.length :=
 abN_len (hT := hT) _ _ (ends_at (fun x y h => (upI_in (C := S.C) (g := fun i => (S.pl i).n.org) (N := S.N) x y h).2.2.2) (upI_acy fun x hx => hT.acy x hx) hi)
theorem up_ind (hT : TreeI S) {Q : Int → Prop} (hr : ∀ i, i ∈ S.N → (S.pl i).n.org ≠ 0 → Q i) (hs : ∀ i, i ∈ S.N → (S.pl i).n.org = 0 → (S.C i).par ∈ S.N → Q (S.C i).par → Q i) {i : Int} (hi : i ∈ S.N) : Q i := by
 have key : ∀ (n : Nat) (i : Int), i ∈ S.N → (S.above i).length = n → Q i := by
  intro n
  induction n with
  | zero =>
   intro i hi hn
   by_cases hg : (S.pl i).n.org = 0
   ·rw [above_inner hT hi hg] at hn; simp at hn
   ·exact hr i hi hg
  | succ n ih =>
   intro i hi hn
   by_cases hg : (S.pl i).n.org = 0
   ·rw [above_inner hT hi hg] at hn
    have hp := (hT.all i hi hg).1
    exact hs i hi hg hp (ih _ hp (by simpa using hn))
   ·exact hr i hi hg
 exact key _ i hi rfl
theorem preN_up (hT : TreeI S) : ∀ (k : Nat) (l : List Int), (∀ i, i ∈ l → i ∈ S.N) → ∀ b, b ∈ preN S.kd k l → b ∈ S.N ∧ ∃ a, a ∈ l ∧ (a :: S.above a) <:+ (b :: S.above b)
 | 0, l, _, b, hb => by simp [preN] at hb
 | k + 1, l, hl, b, hb => by
  simp only [preN, List.mem_flatMap] at hb
  obtain ⟨a, ha, hb⟩ := hb
  rcases List.mem_cons.1 hb with rfl | hb
  ·exact ⟨hl b ha, b, ha, List.suffix_refl _⟩
  ·have haN := hl a ha
   obtain ⟨h1, j, hj, hs⟩ := preN_up hT k (S.kd a) (fun j hj => (hT.kids a haN j hj).1) b hb
   refine ⟨h1, a, ha, ?_⟩
   rw [above_kid hT haN hj] at hs
   exact (List.suffix_cons j _).trans hs
theorem nodup_fm {f : Int → List Int} : ∀ {l : List Int}, (∀ a, a ∈ l → (f a).Nodup) → l.Pairwise (fun a b => ∀ x, x ∈ f a → x ∈ f b → False) → (l.flatMap f).Nodup
 | [], _, _ => by simp
 | a :: r, h1, h2 => by
  obtain ⟨h3, h4⟩ := List.pairwise_cons.1 h2
  rw [List.flatMap_cons, List.nodup_append]
  refine ⟨h1 a (List.mem_cons_self ..), nodup_fm (fun b hb => h1 b (List.mem_cons_of_mem _ hb)) h4, fun x hx y hy e => ?_⟩
  subst e
  obtain ⟨b, hb, hxb⟩ := List.mem_flatMap.1 hy
  exact h3 b hb x hx hxb
theorem preN_nodup (hT : TreeI S) : ∀ (k : Nat) (l : List Int) (d : Nat), (∀ i, i ∈ l → i ∈ S.N ∧ (S.above i).length = d) → l.Nodup → (preN S.kd k l).Nodup
 | 0, l, d, _, _ => by simp [preN]
 | k + 1, l, d, hl, hnd => by
  simp only [preN]
  refine nodup_fm (fun a ha => ?_) ?_
  ·obtain ⟨haN, had⟩ := hl a ha
   refine List.nodup_cons.2 ⟨fun hm => ?_, preN_nodup hT k (S.kd a) (d + 1) (fun j hj => ⟨(hT.kids a haN j hj).1, by rw [above_kid hT haN hj]; simp [had]⟩) (hT.ndk a haN)⟩
   obtain ⟨_, j, hj, hs⟩ := preN_up hT k (S.kd a) (fun j hj => (hT.kids a haN j hj).1) a hm
   rw [above_kid hT haN hj] at hs
   have := hs.length_le
   simp at this
   omega
  ·refine (List.Pairwise.and_mem.1 hnd).imp fun {a b} h => ?_
   obtain ⟨ha, hb, hne⟩ := h
   obtain ⟨haN, had⟩ := hl a ha
   obtain ⟨hbN, hbd⟩ := hl b hb
   have key : ∀ {a x : Int}, a ∈ S.N → x ∈ a :: preN S.kd k (S.kd a) → (a :: S.above a) <:+ (x :: S.above x) := fun {a x} haN hx => by
    rcases List.mem_cons.1 hx with rfl | hx
    ·exact List.suffix_refl _
    ·obtain ⟨_, j, hj, hs⟩ := preN_up hT k (S.kd a) (fun j hj => (hT.kids a haN j hj).1) x hx
     rw [above_kid hT haN hj] at hs
     exact (List.suffix_cons j _).trans hs
   intro x hx hx'
   have s1 := key haN hx
   have s2 := key hbN hx'
   have := List.suffix_of_suffix_length_le s1 s2 (by simp [had, hbd])
   have e := this.eq_of_length (by simp [had, hbd])
   exact hne (List.cons.inj e).1
theorem preN_mono : ∀ (k : Nat) (l : List Int) (b : Int), b ∈ preN S.kd k l → b ∈ preN S.kd (k + 1) l
 | 0, l, b, h => by simp [preN] at h
 | k + 1, l, b, h => by
  simp only [preN, List.mem_flatMap] at h
  obtain ⟨a, ha, hb⟩ := h
  rw [show preN S.kd (k + 1 + 1) l = l.flatMap fun i => i :: preN S.kd (k + 1) (S.kd i) from rfl, List.mem_flatMap]
  refine ⟨a, ha, ?_⟩
  rcases List.mem_cons.1 hb with rfl | hb
  ·exact List.mem_cons_self ..
  ·exact List.mem_cons_of_mem _ (preN_mono k _ b hb)
theorem preN_kid : ∀ (k : Nat) (l : List Int) (p j : Int), p ∈ preN S.kd k l → j ∈ S.kd p → j ∈ preN S.kd (k + 1) l
 | 0, l, p, j, h, _ => by simp [preN] at h
 | k + 1, l, p, j, h, hj => by
  simp only [preN, List.mem_flatMap] at h
  obtain ⟨a, ha, hb⟩ := h
  rw [show preN S.kd (k + 1 + 1) l = l.flatMap fun i => i :: preN S.kd (k + 1) (S.kd i) from rfl, List.mem_flatMap]
  refine ⟨a, ha, List.mem_cons_of_mem _ ?_⟩
  rcases List.mem_cons.1 hb with rfl | hb
  ·simp only [preN, List.mem_flatMap]
   exact ⟨j, hj, List.mem_cons_self ..⟩
  ·exact preN_kid k _ p j hb hj
theorem preN_le {k m : Nat} {l : List Int} {b : Int} (h : b ∈ preN S.kd k l) (hm : k ≤ m) : b ∈ preN S.kd m l := by
 induction hm with
 | refl => exact h
 | step _ ih => exact preN_mono _ _ _ ih
theorem Srt.nodup {T : Int → Tv} {l : List Int} (h : Srt T l) : l.Nodup := by
 refine List.Pairwise.imp (fun {a b} hab => ?_) h
 rintro rfl
 unfold ltT at hab
 omega
theorem order_perm (hS : ForS cs S) (hnd : S.N.Nodup) : S.order.Perm S.N := by
 have hT := hS.kids
 have hr : ∀ i, i ∈ S.rl → i ∈ S.N ∧ (S.above i).length = 0 := fun i hi => by
  obtain ⟨h1, h2⟩ := (hS.rts i).1 hi
  exact ⟨h1, by rw [above_root fun h => h2 h.2]; rfl⟩
 have h1 : S.order.Nodup := preN_nodup hT _ _ 0 hr hS.rsrt.nodup
 refine (List.perm_ext_iff_of_nodup h1 hnd).2 fun b => ⟨fun hb => (preN_up hT _ _ (fun i hi => (hr i hi).1) b hb).1, fun hb => ?_⟩
 have key : b ∈ preN S.kd ((S.above b).length + 1) S.rl := by
  refine up_ind (Q := fun b => b ∈ preN S.kd ((S.above b).length + 1) S.rl) hT (fun i hi hg => ?_) (fun i hi hg hp ih => ?_) hb
  ·rw [above_root fun h => hg h.2]
   simp only [List.length_nil, preN, List.mem_flatMap]
   exact ⟨i, (hS.rts i).2 ⟨hi, hg⟩, List.mem_cons_self ..⟩
  ·rw [above_inner hT hi hg]
   exact preN_kid _ _ _ i ih (hT.all i hi hg).2
 exact preN_le key (above_len hT hb)
end
end Go.Eng.S

namespace Go.Eng.S
open Go Go.Eng Go.Proofs
set_option linter.constructorNameAsVariable false
noncomputable section
attribute [local irreducible] bsel
theorem sameIDs_ok {x y : AV} {l : List Int} {s : St} (hx : Sl linkE s x l) (hy : Sl linkE s y l) (hl : l.length ≤ 1000000) : CallsD P F.spoorlaw10_sameIDs [x, y] s fun v s' => v = .bool true ∧ Frw [] s s' := by
 refine CallsD.fr fun hfr => vc.spoorlaw10_sameIDs_ok (hx.slen (hy.slen (bsel_of (fun c => by simp at c) fun _ => ?_)))
 refine ⟨fun n s' m => ∃ k : Nat, n = k ∧ m = l.length - k ∧ k ≤ l.length ∧ Frw [] s s', ⟨_, 0, rfl, rfl, by omega, .refl _ _⟩, ?_⟩
 rintro _ s6 _ ⟨k, rfl, rfl, hk, hf⟩
 refine (hx.ext hf).slen (bsel_of (fun c => ?_) fun _ => ⟨rfl, hf⟩)
 have c : k < l.length := by simpa using c
 intro s9 b9
 have f9 := hf.trans b9.fwd
 refine (hx.ext f9).ixs rfl rfl c fun b o hr => ⟨_, hr.ld1 0 rfl, (hy.ext f9).ixs rfl rfl c fun b2 o2 hr2 => ⟨_, hr2.ld1 0 rfl, bsel_of (fun c => by simp at c) fun _ => ⟨l.length - (k + 1), by omega, k + 1, wrap_i64 (by omega) (by omega), rfl, by omega, f9⟩⟩⟩
set_option maxHeartbeats 1000000 in
theorem same_ok {a b : SpX} {s : St} (ha : a.At s) (hb : b.At s) (he : a.c = b.c) (hs : a.c.Small) : CallsD P F.spoorlaw10_same [.agg a.cells, .agg b.cells] s fun v s' => v = .bool true ∧ Frw [] s s' := by
 obtain ⟨ca, xa, ya, za⟩ := a
 obtain ⟨cb, xb, yb, zb⟩ := b
 obtain rfl : ca = cb := he
 obtain ⟨l1, l2, l3⟩ := hs
 have l1 : ca.lk.length ≤ 1000000 := l1
 have l2 : ca.atr.length ≤ 1000000 := l2
 have l3 : ca.ev.length ≤ 1000000 := l3
 refine CallsD.fr fun hfr => vc.spoorlaw10_same_ok ?_
 intro m1 s2 n2 m3 s4 n4
 have o1 : Own s4 m1 (⟨ca, xa, ya, za⟩ : SpX).cells := n2.own.ext n4.fwd
 have o3 : Own s4 m3 (⟨ca, xb, yb, zb⟩ : SpX).cells := n4.own
 have f4 : Frw [] s s4 := n2.fwd.trans n4.fwd
 have hax := ha.x.ext f4
 have hay := ha.y.ext f4
 have haz := ha.z.ext f4
 have hbx := hb.x.ext f4
 have hby := hb.y.ext f4
 have hbz := hb.z.ext f4
 refine ⟨_, _, o1.ldN 0 2 (by simp [SpX.cells]), _, _, o3.ldN 0 2 (by simp [SpX.cells]), bsel_of (fun c => by simp at c) fun _ => ?_⟩
 refine ⟨_, o1.ld1 2 rfl, _, o3.ld1 2 rfl, bsel_of (fun c => by simp at c) fun _ => ⟨_, o1.ld1 3 rfl, _, o3.ld1 3 rfl, bsel_of (fun c => by simp at c) fun _ => ?_⟩⟩
 refine ⟨_, o1.ld1 5 rfl, _, o3.ld1 5 rfl, bsel_of (fun c => by simp [bytesEq_eq] at c) fun _ => ⟨_, o1.ld1 6 rfl, _, o3.ld1 6 rfl, bsel_of (fun c => by simp [bytesEq_eq] at c) fun _ => ?_⟩⟩
 refine ⟨_, o1.ld1 7 rfl, _, o3.ld1 7 rfl, bsel_of (fun c => by simp at c) fun _ => ⟨_, o1.ld1 8 rfl, _, o3.ld1 8 rfl, bsel_of (fun c => by simp at c) fun _ => ?_⟩⟩
 refine ⟨_, o1.ld1 9 rfl, _, o3.ld1 9 rfl, bsel_of (fun c => by simp at c) fun _ => ⟨_, o1.ld1 10 rfl, _, o3.ld1 10 rfl, bsel_of (fun c => by simp at c) fun _ => ?_⟩⟩
 refine ⟨_, o1.ld1 4 rfl, hax.slen ⟨_, o3.ld1 4 rfl, hbx.slen (bsel_of (fun c => by simp at c) fun _ => ?_)⟩⟩
 refine ⟨_, o1.ld1 11 rfl, hay.slen ⟨_, o3.ld1 11 rfl, hby.slen (bsel_of (fun c => by simp at c) fun _ => ?_)⟩⟩
 refine ⟨_, o1.ld1 12 rfl, haz.slen ⟨_, o3.ld1 12 rfl, hbz.slen (bsel_of (fun c => by simp at c) fun _ => ?_)⟩⟩
 refine ⟨fun n s' m => ∃ k : Nat, n = k ∧ m = ca.lk.length - k ∧ k ≤ ca.lk.length ∧ Frw [] s4 s', ⟨_, 0, rfl, rfl, by omega, .refl _ _⟩, ?_⟩
 rintro _ s40 _ ⟨k, rfl, rfl, hk, hf⟩
 refine ⟨_, (o1.ext hf).ld1 4 rfl, (hax.ext hf).slen (bsel_of (fun c => ?_) fun _ => ?_)⟩
 ·have c : k < ca.lk.length := by simpa using c
  intro s44 b44
  have hf := hf.trans b44.fwd
  refine ⟨_, (o1.ext hf).ld1 4 rfl, (hax.ext hf).ixs rfl rfl c fun b o hr => ⟨_, hr.ld1 0 rfl, _, (o3.ext hf).ld1 4 rfl, (hbx.ext hf).ixs rfl rfl c fun b2 o2 hr2 => ⟨_, hr2.ld1 0 rfl, bsel_of (fun c => by simp at c) fun _ => ⟨ca.lk.length - (k + 1), by omega, k + 1, wrap_i64 (by omega) (by omega), rfl, by omega, hf⟩⟩⟩⟩
 refine ⟨fun n s' m => ∃ k : Nat, n = k ∧ m = ca.atr.length - k ∧ k ≤ ca.atr.length ∧ Frw [] s4 s', ⟨_, 0, rfl, rfl, by omega, hf⟩, ?_⟩
 rintro _ s57 _ ⟨k, rfl, rfl, hk, hf⟩
 refine ⟨_, (o1.ext hf).ld1 11 rfl, (hay.ext hf).slen (bsel_of (fun c => ?_) fun _ => ?_)⟩
 ·have c : k < ca.atr.length := by simpa using c
  intro s61 b61
  have hf := hf.trans b61.fwd
  refine ⟨_, (o1.ext hf).ld1 11 rfl, (hay.ext hf).ixs rfl rfl c fun b o hr => ⟨_, _, _, _, hr.all rfl, _, (o3.ext hf).ld1 11 rfl, (hby.ext hf).ixs rfl rfl c fun b2 o2 hr2 => ⟨_, _, _, _, hr2.all rfl, bsel_of (fun c => by simp [bytesEq_eq] at c) fun _ => ⟨ca.atr.length - (k + 1), by omega, k + 1, wrap_i64 (by omega) (by omega), rfl, by omega, hf⟩⟩⟩⟩
 refine ⟨fun n s' m => ∃ k : Nat, n = k ∧ m = ca.ev.length - k ∧ k ≤ ca.ev.length ∧ Frw [] s4 s', ⟨_, 0, rfl, rfl, by omega, hf⟩, ?_⟩
 rintro _ s80 _ ⟨k, rfl, rfl, hk, hf⟩
 refine ⟨_, (o1.ext hf).ld1 12 rfl, (haz.ext hf).slen (bsel_of (fun c => ?_) fun _ => ⟨rfl, f4.trans hf⟩)⟩
 have c : k < ca.ev.length := by simpa using c
 intro s84 b84
 have hf := hf.trans b84.fwd
 exact ⟨_, (o1.ext hf).ld1 12 rfl, (haz.ext hf).ixs rfl rfl c fun b o hr => ⟨_, _, hr.all rfl, _, (o3.ext hf).ld1 12 rfl, (hbz.ext hf).ixs rfl rfl c fun b2 o2 hr2 => ⟨_, _, hr2.all rfl, bsel_of (fun c => by simp [bytesEq_eq] at c) fun _ => ⟨ca.ev.length - (k + 1), by omega, k + 1, wrap_i64 (by omega) (by omega), rfl, by omega, hf⟩⟩⟩⟩
theorem pick_ok {c n : Int} {s : St} (hc : -9223372036854775808 ≤ c ∧ c < 9223372036854775808) (hn : 0 < n) : CallsD P F.spoorlaw10_pick [.int .i64 c, .int .i64 n] s fun v s' => (∃ k : Int, v = .int .i64 k ∧ 0 ≤ k ∧ k < n) ∧ s' = s := by
 refine vc.spoorlaw10_pick_ok (bsel_of (fun e => ?_) fun e => ?_)
 ·have e : c < 0 := by simpa using e
  have e1 : IntKind.wrap .i64 (c + 1) = c + 1 := wrap_i64 (by omega) (by omega)
  have e2 : IntKind.wrap .i64 (0 - (c + 1)) = 0 - (c + 1) := wrap_i64 (by omega) (by omega)
  rw [e1, e2]
  refine ⟨by omega, ⟨_, rfl, ?_, ?_⟩, rfl⟩
  ·exact Int.tmod_nonneg _ (by omega)
  ·exact Int.tmod_lt_of_pos _ hn
 ·have e : ¬ c < 0 := by simpa using e
  refine ⟨by omega, ⟨_, rfl, ?_, ?_⟩, rfl⟩
  ·exact Int.tmod_nonneg _ (by omega)
  ·exact Int.tmod_lt_of_pos _ hn
theorem swap_perm {α : Type} {l : List α} {a b : Nat} (ha : a < l.length) (hb : b < l.length) : ((l.set a l[b]).set b l[a]).Perm l :=
 List.set_set_perm ha hb
abbrev ordE : Enc Int := oneE fun i => AV.int .i64 i
set_option maxHeartbeats 1000000 in
theorem moved_ok {x y : AV} {l : List SpX} {ord : List Int} {s : St} (h : Sl spE s x l) (hA : ∀ a, a ∈ l → Eng.ones a.cells = true) (hy : Sl ordE s y ord) (hr : ∀ n, n ∈ ord → -9223372036854775808 ≤ n ∧ n < 9223372036854775808) (hol : ord.length ≤ 9223372036854775807) (hsz : (l.length + l.length / 4 + 600) * 168 ≤ pow48) :
  CallsD P F.spoorlaw10_moved [x, y] s fun v s' => (∃ l', Sl spE s' v l' ∧ l'.Perm l) ∧ Frw [] s s' := by
 refine CallsD.fr fun hfr => vc.spoorlaw10_moved_ok ?_
 intro m1 s2 n2
 have hl : l.length ≤ pow48 := by unfold pow48 at hsz ⊢; omega
 obtain ⟨v, s4, w4, hv, hor, f4, fr4⟩ := appendAll0 (D := D) (t := T.sl_api_Span) n2.own (h.ext n2.fwd) ty.sl_api_Span rfl ty.api_Span rfl rfl rfl (fun a ha => hA a ha) hsz hl n2.fr
 refine ⟨v, s4, w4, ?_⟩
 have F4 : Frw [] s s4 := n2.fwd.trans f4
 refine ⟨fun n s' m => ∃ (k : Nat) (l' : List SpX), n = k ∧ m = ord.length - k ∧ k ≤ ord.length ∧ Sl spE s' v l' ∧ (l' ≠ [] → So spE s' v l') ∧ l'.Perm l ∧ Frw [] s s' ∧ Fr s',
  ⟨_, 0, l, rfl, rfl, by omega, hv, fun hne => (hor.resolve_left fun h => hne h.1).1, .refl _, F4, fr4⟩, ?_⟩
 rintro _ s8 _ ⟨k, l', rfl, rfl, hk, hv8, hso, hp, hf, hfr8⟩
 have fin : (∃ l', Sl spE s8 v l' ∧ l'.Perm l) ∧ Frw [] s s8 := ⟨⟨l', hv8, hp⟩, hf⟩
 refine (hy.ext hf).slen (bsel_of (fun c => ?_) fun _ => fin)
 have c : k < ord.length := by simpa using c
 refine hv8.slen (bsel_of (fun c2 => ?_) fun _ => fin)
 have c2 : 0 < l'.length := by simp at c2; omega
 have hne : l' ≠ [] := fun e => by rw [e] at c2; simp at c2
 have hso := hso hne
 refine hv8.slen ⟨by omega, (hy.ext hf).ixs rfl rfl c fun b o hr' => ⟨_, hr'.ld1 0 rfl, hv8.slen ?_⟩⟩
 refine (pick_ok (hr _ (List.getElem_mem c)) (by omega)).mono ?_
 rintro _ _ ⟨⟨q, rfl, q0, q1⟩, rfl⟩
 refine ⟨_, rfl, fun s20 b20 => ?_⟩
 have f20 := hf.trans b20.fwd
 obtain ⟨q, rfl⟩ : ∃ q' : Nat, q = q' := ⟨q.toNat, by omega⟩
 have hq : q < l'.length := by omega
 have ea : Int.tmod (k : Int) ((l'.length : Nat) : Int) = ((k % l'.length : Nat) : Int) := by
  rw [Int.tmod_eq_emod_of_nonneg (by omega)]; rfl
 have ha : k % l'.length < l'.length := Nat.mod_lt _ c2
 rw [ea]
 generalize k % l'.length = p at ha
 have hv20 := hv8.ext b20.fwd
 have hso20 := hso.ext b20.fwd
 refine hv20.ixs rfl rfl hq fun b1 o1 hr1 => ⟨_, _, _, _, _, _, _, _, _, _, _, _, _, hr1.all rfl, hv20.ixs rfl rfl ha fun b2 o2 hr2 => ⟨_, _, _, _, _, _, _, _, _, _, _, _, _, hr2.all rfl, ?_⟩⟩
 have ones' : ∀ a, a ∈ l' → Eng.ones a.cells = true := fun a ha => hA a (hp.mem_iff.1 ha)
 refine hso20.ixsWr rfl rfl ha (j := 0) (vs := l'[q].cells) (a := l'[q]) (ones' _ (List.getElem_mem hq)) (by show 0 + 13 ≤ 13; omega) rfl fun b3 o3 s53 hb3 w53 so53 f53 n53 c53 => ⟨s53, w53, ?_⟩
 have fr53 : Fr s53 := by
  have hb : s20.h.get b3 ≠ none := So.there' hso20 b3 (by rw [hb3]; simp)
  exact b20.fr.wr hb n53 c53
 have hq' : q < (l'.set p l'[q]).length := by simpa using hq
 refine so53.ixsWr rfl rfl hq' (j := 0) (vs := l'[p].cells) (a := l'[p]) (ones' _ (List.getElem_mem ha)) (by show 0 + 13 ≤ 13; omega) rfl fun b4 o4 s56 hb4 w56 so56 f56 n56 c56 => ⟨s56, w56, ?_⟩
 have fr56 : Fr s56 := by
  have hb : s53.h.get b4 ≠ none := So.there' so53 b4 (by rw [hb4]; simp)
  exact fr53.wr hb n56 c56
 have hgone : ∀ c, c ∈ blkOf v → s.h.get c = none := fun c hc => by
  rcases hor with ⟨he, _⟩ | ⟨_, hg⟩
  ·have := hp.length_eq
   rw [he] at this
   simp at this
   exact absurd this hne
  ·exact n2.fwd.none (hg c hc) (by simp)
 refine ⟨ord.length - (k + 1), by omega, k + 1, _, wrap_i64 (by omega) (by omega), rfl, by omega, so56.sl, fun _ => so56, (swap_perm ha hq).trans hp, ?_, fr56⟩
 exact (f20.step f53 fun c hc => by rw [List.mem_singleton.1 hc]; exact hgone b3 (by rw [hb3]; simp)).step f56 fun c hc => by rw [List.mem_singleton.1 hc]; exact hgone b4 (by rw [hb4]; simp)
end
end Go.Eng.S

namespace Go.Eng.S
open Go Go.Eng Go.Proofs
set_option linter.constructorNameAsVariable false
noncomputable section
attribute [local irreducible] bsel
open Classical
theorem reach_congr {U V : UF} {N : List Int} (h : ∀ x, x ∈ N → U x = V x) (hc : ∀ x y, U x = some y → y ∈ N) {i j : Int} (hi : i ∈ N) (hr : Reach U i j) : Reach V i j := by
 have := closed_reach (U := U) (M := fun z => z ∈ N ∧ Reach V i z) (fun a b ha hu => ⟨hc a b hu, ha.2.trans (.one (by rw [← h a ha.1]; exact hu))⟩) ⟨hi, .refl i⟩ hr
 exact this.2
theorem least_congr {U V : UF} {N : List Int} (h : ∀ x, x ∈ N → U x = V x) (hc : ∀ x y, U x = some y → y ∈ N) (hc' : ∀ x y, V x = some y → y ∈ N) {i : Int} (hi : i ∈ N) : Least U i ↔ Least V i := by
 have key : ∀ {U V : UF}, (∀ x, x ∈ N → U x = V x) → (∀ x y, U x = some y → y ∈ N) → (∀ x y, V x = some y → y ∈ N) → Least U i → Least V i := by
  intro U V h hc hc' ⟨h1, h2⟩
  refine ⟨?_, fun y hy => h2 y (reach_congr (fun x hx => (h x hx).symm) hc' hi hy)⟩
  obtain ⟨y, y1, y2⟩ := Ring.iff.1 h1
  exact Ring.iff.2 ⟨y, by rw [← h i hi]; exact y1, reach_congr h hc (hc i y y1) y2⟩
 exact ⟨key h hc hc', key (fun x hx => (h x hx).symm) hc' hc⟩
theorem orgC_congr {C C' : Int → SpC} {N N' : List Int} (hN : ∀ x, x ∈ N ↔ x ∈ N') (hC : ∀ i, i ∈ N → C i = C' i) {i : Int} (hi : i ∈ N) : orgC C N i = orgC C' N' i := by
 have hu : ∀ x, x ∈ N → upC C N x = upC C' N' x := fun x hx => by
  unfold upC
  rw [hC x hx]
  by_cases hm : (C' x).par ∈ N
  ·rw [if_pos hm, if_pos ((hN _).1 hm)]
  ·rw [if_neg hm, if_neg fun h => hm ((hN _).2 h)]
 have hl : Least (upC C N) i ↔ Least (upC C' N') i := least_congr hu (fun x y h => upC_in x y h) (fun x y h => (hN y).2 (upC_in x y h)) hi
 unfold orgC
 rw [hC i hi]
 by_cases h1 : (C' i).par = 0
 ·rw [if_pos h1, if_pos h1]
 ·rw [if_neg h1, if_neg h1]
  by_cases h2 : (C' i).par ∉ N
  ·rw [if_pos h2, if_pos fun h => h2 ((hN _).2 h)]
  ·have h2' : ¬ (C' i).par ∉ N' := fun h => h2 fun h' => h ((hN _).1 h')
   rw [if_neg h2, if_neg h2']
   by_cases h3 : Least (upC C N) i
   ·rw [if_pos h3, if_pos (hl.1 h3)]
   ·rw [if_neg h3, if_neg fun h => h3 (hl.2 h)]
theorem tvN_congr {C C' : Int → SpC} {g g' : Int → Int} {N : List Int} (hC : ∀ i, i ∈ N → C i = C' i) (hg : ∀ i, i ∈ N → g i = g' i) (hp : ∀ i, i ∈ N → g i = 0 → (C i).par ∈ N) : ∀ (k : Nat) (i : Int), i ∈ N → tvN C g k i = tvN C' g' k i
 | 0, i, hi => by simp only [tvN, rootT]; rw [hC i hi]
 | k + 1, i, hi => by
  simp only [tvN]
  rw [← hg i hi]
  by_cases h : g i ≠ 0
  ·rw [if_pos h, if_pos h]; simp only [rootT]; rw [hC i hi]
  ·rw [if_neg h, if_neg h]
   have h : g i = 0 := Classical.byContradiction h
   rw [tvN_congr hC hg hp k _ (hp i hi h), hC i hi]
theorem fitL_iff {h l : Int} : ∀ {cs : List SpC}, fitL h l cs = true ↔ ∀ c, c ∈ cs → chk c = 0 ∧ c.hi = h ∧ c.lo = l
 | [] => by simp [fitL]
 | a :: r => by
  unfold fitL
  by_cases h1 : chk a ≠ 0
  ·rw [if_pos h1]
   simp only [Bool.false_eq_true, false_iff]
   intro hh
   exact h1 (hh a (List.mem_cons_self ..)).1
  ·rw [if_neg h1]
   have h1 : chk a = 0 := Classical.byContradiction h1
   by_cases h2 : a.hi = h ∧ a.lo = l
   ·rw [if_pos h2, fitL_iff]
    simp [h1, h2]
   ·rw [if_neg h2]
    simp only [Bool.false_eq_true, false_iff]
    intro hh
    exact h2 (hh a (List.mem_cons_self ..)).2
theorem BuildOk.perm {cs cs' : List SpC} (h : BuildOk cs) (hp : cs.Perm cs') : BuildOk cs' := by
 obtain ⟨h1, h2⟩ := h
 refine ⟨?_, (hp.map SpC.id).nodup_iff.1 h2⟩
 unfold fitB at h1 ⊢
 simp only [Bool.and_eq_true, decide_eq_true_eq] at h1 ⊢
 obtain ⟨h3, h4⟩ := h1
 refine ⟨by rw [← hp.length_eq]; exact h3, ?_⟩
 rw [fitL_iff] at h4 ⊢
 intro c hc
 obtain ⟨k1, k2, k3⟩ := h4 c (hp.mem_iff.2 hc)
 refine ⟨k1, ?_⟩
 cases cs' with
 | nil => simp at hc
 | cons d r =>
  obtain ⟨_, e2, e3⟩ := h4 d (hp.mem_iff.2 (List.mem_cons_self ..))
  simp only [hd0]
  exact ⟨k2.trans e2.symm, k3.trans e3.symm⟩
theorem Nd.ext' {a b : Nd} (h1 : a.id = b.id) (h2 : a.par = b.par) (h3 : a.org = b.org) (h4 : a.tv = b.tv) : a = b := by
 cases a; cases b
 simp only [Nd.tv, Tv.mk.injEq] at h4
 obtain ⟨e1, e2, e3, e4⟩ := h4
 simp only at h1 h2 h3
 subst h1; subst h2; subst h3; subst e1; subst e2; subst e3; subst e4
 rfl
theorem srt_same {T T' : Int → Tv} {l l' : List Int} (hm : ∀ x, x ∈ l ↔ x ∈ l') (hT : ∀ x, x ∈ l → T x = T' x) (h : Srt T l) (h' : Srt T' l') : l = l' := by
 have hp : l.Perm l' := (List.perm_ext_iff_of_nodup h.nodup h'.nodup).2 hm
 have h2 : l'.Pairwise (ltT T) := (List.Pairwise.and_mem.1 h').imp fun {a b} ⟨ha, hb, hab⟩ => by
  unfold ltT at hab ⊢
  rw [hT a ((hm a).2 ha), hT b ((hm b).2 hb)]
  exact hab
 refine sorted_unique hp h h2 fun x y _ _ h1 h2 => ?_
 unfold ltT at h1 h2
 omega
theorem preN_congr {k1 k2 : Int → List Int} {N : List Int} (hk : ∀ i, i ∈ N → k1 i = k2 i) (hc : ∀ i, i ∈ N → ∀ j, j ∈ k1 i → j ∈ N) : ∀ (n : Nat) (l : List Int), (∀ i, i ∈ l → i ∈ N) → preN k1 n l = preN k2 n l
 | 0, _, _ => rfl
 | n + 1, l, hl => by
  simp only [preN]
  induction l with
  | nil => rfl
  | cons a r ih =>
   have haN := hl a (List.mem_cons_self ..)
   simp only [List.flatMap_cons]
   rw [ih fun i hi => hl i (List.mem_cons_of_mem _ hi), ← hk a haN, preN_congr hk hc n (k1 a) fun j hj => hc a haN j hj]
theorem forest_same {cs cs' : List SpC} {S S' : FoD} (hS : ForS cs S) (hS' : ForS cs' S') (hp : cs.Perm cs') :
  (∀ x, x ∈ S.N ↔ x ∈ S'.N) ∧ (∀ i, i ∈ S.N → (S.pl i).n = (S'.pl i).n ∧ S.kd i = S'.kd i ∧ S.C i = S'.C i) ∧ S.rl = S'.rl ∧ S.il = S'.il ∧ S.order = S'.order := by
 have hNp : S.N.Perm S'.N := by rw [hS.N, hS'.N]; exact hp.map _
 have hN : ∀ x, x ∈ S.N ↔ x ∈ S'.N := fun x => hNp.mem_iff
 have hC : ∀ i, i ∈ S.N → S.C i = S'.C i := fun i hi => by
  rw [hS.N, List.mem_map] at hi
  obtain ⟨c, hc, rfl⟩ := hi
  rw [hS.C c hc, hS'.C c (hp.mem_iff.1 hc)]
 have hO : ∀ i, i ∈ S.N → orgC S.C S.N i = orgC S'.C S'.N i := fun i hi => orgC_congr hN hC hi
 have hT : ∀ i, i ∈ S.N → tvOf S.C (orgC S.C S.N) S.N i = tvOf S'.C (orgC S'.C S'.N) S'.N i := fun i hi => by
  unfold tvOf
  rw [hNp.length_eq]
  exact tvN_congr hC hO (fun i hi hg => (hS.kids.all i hi (by rw [hS.org i hi]; exact hg)).1) _ i hi
 have hg : ∀ i, i ∈ S.N → (S.pl i).n.org = (S'.pl i).n.org := fun i hi => by rw [hS.org i hi, hS'.org i ((hN i).1 hi), hO i hi]
 have hn : ∀ i, i ∈ S.N → (S.pl i).n = (S'.pl i).n := fun i hi => by
  have hi' := (hN i).1 hi
  refine Nd.ext' (by rw [hS.id i hi, hS'.id i hi']) ?_ (hg i hi) (by rw [hS.tv i hi, hS'.tv i hi', hT i hi])
  rw [hS.par i hi, hS'.par i hi', hg i hi, hC i hi]
 have hkm : ∀ i, i ∈ S.N → ∀ j, j ∈ S.kd i ↔ j ∈ S.N ∧ (S.pl j).n.org = 0 ∧ (S.C j).par = i := fun i hi j => by
  constructor
  ·exact fun h => hS.kids.kids i hi j h
  ·rintro ⟨h1, h2, h3⟩
   have := (hS.kids.all j h1 h2).2
   rw [h3] at this; exact this
 have hkm' : ∀ i, i ∈ S.N → ∀ j, j ∈ S'.kd i ↔ j ∈ S.N ∧ (S.pl j).n.org = 0 ∧ (S.C j).par = i := fun i hi j => by
  constructor
  ·intro h
   obtain ⟨h1, h2, h3⟩ := hS'.kids.kids i ((hN i).1 hi) j h
   have h1' := (hN j).2 h1
   exact ⟨h1', by rw [hg j h1']; exact h2, by rw [hC j h1']; exact h3⟩
  ·rintro ⟨h1, h2, h3⟩
   have := (hS'.kids.all j ((hN j).1 h1) (by rw [← hg j h1]; exact h2)).2
   rw [← hC j h1, h3] at this; exact this
 have hk : ∀ i, i ∈ S.N → S.kd i = S'.kd i := fun i hi =>
  srt_same (fun x => (hkm i hi x).trans (hkm' i hi x).symm) (fun x hx => hT x ((hkm i hi x).1 hx).1) (hS.srt i hi) (hS'.srt i ((hN i).1 hi))
 have hr : S.rl = S'.rl := srt_same (fun x => by
  rw [hS.rts, hS'.rts]
  constructor
  ·rintro ⟨h1, h2⟩; exact ⟨(hN x).1 h1, by rw [← hg x h1]; exact h2⟩
  ·rintro ⟨h1, h2⟩; exact ⟨(hN x).2 h1, by rw [hg x ((hN x).2 h1)]; exact h2⟩) (fun x hx => hT x ((hS.rts x).1 hx).1) hS.rsrt hS'.rsrt
 refine ⟨hN, fun i hi => ⟨hn i hi, hk i hi, hC i hi⟩, hr, sorted_unique ((hS.ilp.trans hNp).trans hS'.ilp.symm) hS.ils hS'.ils (fun x y _ _ h1 h2 => Int.le_antisymm h1 h2), ?_⟩
 unfold FoD.order
 rw [hNp.length_eq, ← hr]
 exact preN_congr hk (fun i hi j hj => (hS.kids.kids i hi j hj).1) _ _ fun i hi => ((hS.rts i).1 hi).1
theorem ForS.facts {l : List SpX} {S : FoD} {s0 s : St} {f : Nat} {B : Int → Nat} {o : Nat → Tg} (hb : BuildOk (l.map SpX.c)) (hF : Fo s0 s f B o S) (hS : ForS (l.map SpX.c) S) :
  S.N.length = l.length ∧ S.N.length ≤ 1000 ∧ S.order.length = l.length ∧ S.rl.length ≤ 1000 ∧ S.il.length ≤ 1000 ∧ (∀ i, i ∈ S.N → (S.C i).Small) := by
 obtain ⟨h1, h2, h3⟩ := hb.facts
 have e : S.N.length = l.length := by rw [hS.N]; simp
 have ho := order_perm hS hF.nd
 have hr : S.rl.length ≤ S.N.length := nodup_len hS.rsrt.nodup fun x hx => ((hS.rts x).1 hx).1
 refine ⟨e, by omega, by rw [ho.length_eq, e], by omega, by rw [hS.ilp.length_eq]; omega, fun i hi => ?_⟩
 rw [hS.N, List.mem_map] at hi
 obtain ⟨c, hc, rfl⟩ := hi
 rw [hS.C c hc]
 obtain ⟨_, hchk⟩ := fitB_all hb.1
 have := chk_small (hchk c hc)
 exact ⟨by omega, by omega, by omega⟩
set_option maxHeartbeats 4000000 in
set_option maxRecDepth 10000 in
theorem ForestAlone_ok {x y : AV} {l : List SpX} {ord : List Int} {s : St} (hT : TabP s) (h : Sl spE s x l) (hA : ∀ a, a ∈ l → a.Ok s) (hy : Sl ordE s y ord) (hr : ∀ n, n ∈ ord → -9223372036854775808 ≤ n ∧ n < 9223372036854775808) (hol : ord.length ≤ 9223372036854775807) (hsz : (l.length + l.length / 4 + 600) * 168 ≤ pow48) :
  CallsA P F.spoorlaw10_ForestAlone [x, y] s fun v _ => v = .bool true := by
 refine vc.spoorlaw10_ForestAlone_ok ((awake_ok s).mono ?_)
 rintro _ _ ⟨rfl, rfl⟩
 refine ⟨true, rfl, (Build_ok hT h hA).mono ?_⟩
 intro vb s5 hb1
 have hf5 : Frw [] _ s5 := hb1.elim (fun h => h.2.2) fun ⟨_, _, _, _, _, _, hF, _⟩ => hF.fwd
 obtain ⟨x6, n7, hvb⟩ : ∃ x6 n7, vb = .tuple [x6, .int .i64 n7] := hb1.elim (fun h => ⟨_, _, h.2.1⟩) fun ⟨_, _, _, _, _, h, _⟩ => ⟨_, _, h⟩
 refine ⟨x6, n7, hvb, ((CallsD.of fun _ => moved_ok (h.ext hf5) (fun a ha => SpX.ones (hA a ha).1) (hy.ext hf5) hr hol hsz).a).mono ?_⟩
 rintro x10 s9 ⟨⟨⟨l', hl', hp⟩, f9⟩, fr9⟩
 have hpc : (l'.map SpX.c).Perm (l.map SpX.c) := hp.map _
 refine ⟨_, rfl, (Build_ok (Tabs.ext hT (hf5.trans f9)) hl' (fun a ha => SpX.Ok.ext (hA a (hp.mem_iff.1 ha)) (hf5.trans f9))).mono ?_⟩
 rintro _ s12 hb2
 rcases hb1 with ⟨hn1, rfl, _⟩ | ⟨hb1, f, B, o, S, rfl, hF, hS⟩
 ·rcases hb2 with ⟨hn2, rfl, _⟩ | ⟨hb2, _⟩
  ·simp only [AV.tuple.injEq, List.cons.injEq, AV.int.injEq] at hvb
   obtain ⟨rfl, ⟨_, rfl⟩, _⟩ := hvb
   exact ⟨_, _, rfl, bsel_of (fun c => by simp at c) fun _ => bsel_of (fun c => by simp at c) fun _ => bsel_of (fun c => by simp at c) fun _ => bsel_of (fun c => by simp at c) fun _ => bsel_of (fun _ => rfl) fun c => by simp at c⟩
  ·exact absurd (hb2.perm hpc) hn1
 rcases hb2 with ⟨hn2, _⟩ | ⟨hb2, f2, B2, o2, S2, rfl, hF2, hS2⟩
 ·exact absurd (hb1.perm hpc.symm) hn2
 simp only [AV.tuple.injEq, List.cons.injEq, AV.int.injEq] at hvb
 obtain ⟨rfl, ⟨_, rfl⟩, _⟩ := hvb
 obtain ⟨sN, sn, sr, si, so⟩ := forest_same hS hS2 hpc.symm
 obtain ⟨q1, q2, q3, q4, q5, q6⟩ := hS.facts hb1 hF
 obtain ⟨p1, p2, p3, p4, p5, p6⟩ := hS2.facts hb2 hF2
 have hF12 := (hF.ext f9 fr9).ext hF2.fwd hF2.fr
 have hrl : ∀ i, i ∈ S.rl → i ∈ S.N ∧ (S.pl i).n.org ≠ 0 := fun i hi => (hS.rts i).1 hi
 have hrl2 : ∀ i, i ∈ S2.rl → i ∈ S2.N ∧ (S2.pl i).n.org ≠ 0 := fun i hi => (hS2.rts i).1 hi
 refine ⟨_, _, rfl, bsel_of (fun c => by simp at c) fun _ => bsel_of (fun c => by simp at c) fun _ => nilK_ptr (bsel_of (fun c => by simp at c) fun _ => nilK_ptr (bsel_of (fun c => by simp at c) fun _ => bsel_of (fun c => by simp at c) fun _ => ?_))⟩
 refine ((CallsD.of fun _ => nodes_ok hF12 hS.kids hrl (by omega) (by omega)).a).mono ?_
 rintro a s18 ⟨⟨ha, _, f18⟩, fr18⟩
 have hF18 := hF12.ext f18 fr18
 have hF218 := hF2.ext f18 fr18
 refine ⟨_, rfl, ((CallsD.of fun _ => nodes_ok hF218 hS2.kids hrl2 (by omega) (by omega)).a).mono ?_⟩
 rintro b s21 ⟨⟨hb, _, f21⟩, fr21⟩
 have hF21 := hF18.ext f21 fr21
 have hF221 := hF218.ext f21 fr21
 have hx21 := h.ext hF21.fwd
 have ha21 := (ha.sl).ext f21
 have ela : (S.order.map fun i => (S.pl i).n).length = l.length := by simp [q3]
 have elb : (S2.order.map fun i => (S2.pl i).n).length = l.length := by simp [p3, hp.length_eq]
 refine ⟨_, rfl, ha21.slen (hx21.slen (bsel_of (fun c => by rw [ela] at c; simp at c) fun _ => hb.sl.slen (hx21.slen (bsel_of (fun c => by rw [elb] at c; simp at c) fun _ => ?_))))⟩
 refine ⟨fun n s' m => ∃ k : Nat, n = k ∧ m = S.order.length - k ∧ k ≤ S.order.length ∧ Frw [] s21 s' ∧ Fr s', ⟨_, 0, rfl, rfl, by omega, .refl _ _, fr21⟩, ?_⟩
 rintro _ s30 _ ⟨k, rfl, rfl, hk, f30, fr30⟩
 have ha30 := ha21.ext f30
 have hF30 := hF21.ext f30 fr30
 have hF230 := hF221.ext f30 fr30
 refine ha30.slen (bsel_of (fun c => ?_) fun _ => ?_)
 ·have c : k < S.order.length := by simpa using c
  have ck : k < (S.order.map fun i => (S.pl i).n).length := by simpa using c
  have c2 : k < S2.order.length := by rw [← so]; exact c
  have ck2 : k < (S2.order.map fun i => (S2.pl i).n).length := by simpa using c2
  have hiN : S.order[k] ∈ S.N := (order_perm hS hF.nd).mem_iff.1 (List.getElem_mem c)
  have ei : (S.order.map fun i => (S.pl i).n)[k] = (S.pl S.order[k]).n := by simp
  have ei2 : (S2.order.map fun i => (S2.pl i).n)[k] = (S2.pl S.order[k]).n := by simp [so]
  generalize hi : S.order[k] = i at hiN ei ei2
  obtain ⟨e1, e2, e3⟩ := sn i hiN
  have hiN2 : i ∈ S2.N := (sN i).1 hiN
  have eid : (S.pl i).n.id = i := hS.id i hiN
  have rdA : ∀ {s' : St} {z : Nat} {K : Nat → Nat → Prop}, Frw [] s30 s' → z = 7 → (∀ b o, Rd s' b o (S.pl i).n.cells → K b o) → ixsK z a (k : Int) K := fun {s' z K} hf hz hK => (ha30.ext hf).ixs (E := nodeE) hz rfl ck fun b o hr => hK b o (by rw [ei] at hr; exact hr)
  have ld0 : ∀ {s' : St} {b o : Nat}, Rd s' b o (S.pl i).n.cells → ld1 s' (.ptr b o) = some (.int .u64 i) := fun {s' b o} hr => by
   have := hr.ld1 0 (v := .int .u64 (S.pl i).n.id) rfl
   rw [eid] at this; exact this
  refine rdA (.refl _ _) rfl fun b1 o1 hr1 => ⟨i, ld0 hr1, ((CallsD.of fun _ => Span_ok hF30 q6 i).a).mono ?_⟩
  rintro _ s37 ⟨(⟨_, a1, rfl, hN1⟩ | ⟨hn, _⟩), fr37⟩
  rotate_left
  ·exact absurd hiN hn
  refine ⟨_, _, _, _, _, _, _, _, _, _, _, _, _, true, rfl, fun m52 s53 n53 => ?_⟩
  obtain ⟨s54, w54, o54, f54, fr54⟩ := n53.put a1.cells (SpX.ones hN1.at') rfl
  have F54 := hN1.fwd.trans f54
  refine ⟨s54, w54, rdA F54 rfl fun b2 o2' hr2 => ⟨i, ld0 hr2, ((CallsD.of fun _ => Span_ok (hF230.ext F54 fr54) p6 i).a).mono ?_⟩⟩
  rintro _ s59 ⟨(⟨_, a2, rfl, hN2⟩ | ⟨hn, _⟩), fr59⟩
  rotate_left
  ·exact absurd hiN2 hn
  refine ⟨_, _, _, _, _, _, _, _, _, _, _, _, _, true, rfl, fun m74 s75 n75 => ?_⟩
  obtain ⟨s76, w76, o76, f76, fr76⟩ := n75.put a2.cells (SpX.ones hN2.at') rfl
  have F76 := hN2.fwd.trans f76
  have o52 := o54.ext F76
  have F76' := F54.trans F76
  have ha1 := (hN1.at'.ext f54).ext F76
  have ha2 := hN2.at'.ext f76
  have esame : a1.c = a2.c := by rw [hN1.c, hN2.c, e3]
  have hsm : a1.c.Small := by rw [hN1.c]; exact q6 i hiN
  refine ⟨s76, w76, _, _, _, _, _, _, _, _, _, _, _, _, _, o52.all rfl, _, _, _, _, _, _, _, _, _, _, _, _, _, o76.all rfl, ((CallsD.of fun _ => same_ok ha1 ha2 esame hsm).a).mono ?_⟩
  rintro _ s104 ⟨⟨rfl, f104⟩, fr104⟩
  refine ⟨true, rfl, fun s106 b106 => ?_⟩
  have F106 := (F76'.trans f104).trans b106.fwd
  refine rdA F106 rfl fun b3 o3' hr3 => ⟨i, ld0 hr3, (CallsD.of fun _ => Children_ok (hF30.ext F106 b106.fr) hS.kids i).mono ?_⟩
  rintro xk s111 ⟨⟨⟨hk1, _⟩, f111⟩, fr111⟩
  have F111 := F106.trans f111
  refine ⟨_, rfl, rdA F106 rfl fun b4 o4' hr4 => ha30.noSym ⟨i, ld0 (hr4.fwd f111 (by simp)), ld0 hr4, ?_⟩⟩
  refine (CallsD.of fun _ => Children_ok (hF230.ext F111 fr111) hS2.kids i).mono ?_
  rintro xk2 s117 ⟨⟨⟨hk2, _⟩, f117⟩, fr117⟩
  have ek : kidsOf S i = kidsOf S2 i := by
   unfold kidsOf
   rw [if_pos hiN, if_pos hiN2]; exact e2
  rw [← ek] at hk2
  have hkl : (kidsOf S i).length ≤ 1000000 := by
   unfold kidsOf
   rw [if_pos hiN]
   have := hS.kids.len i hiN; omega
  refine ⟨_, rfl, (CallsD.of fun _ => sameIDs_ok (hk1.ext f117) hk2 hkl).mono ?_⟩
  rintro _ s120 ⟨⟨rfl, f120⟩, fr120⟩
  refine ⟨true, rfl, fun s122 b122 => ?_⟩
  have F122 := ((F111.trans f117).trans f120).trans b122.fwd
  refine rdA F122 rfl fun b5 o5' hr5 => ⟨_, _, _, _, _, _, _, hr5.all rfl, ?_⟩
  refine ((hb.sl.ext f30).ext F122).ixs (E := nodeE) rfl rfl ck2 fun b6 o6' hr6 => ⟨_, _, _, _, _, _, _, by rw [ei2, ← e1] at hr6; exact hr6.all rfl, ?_⟩
  exact bsel_of (fun c => by simp at c) fun _ => bsel_of (fun c => by simp at c) fun _ => bsel_of (fun c => by simp at c) fun _ => bsel_of (fun c => by simp at c) fun _ => bsel_of (fun c => by simp at c) fun _ => ⟨S.order.length - (k + 1), by omega, k + 1, wrap_i64 (by omega) (by omega), rfl, by omega, f30.trans F122, b122.fr⟩
 ·refine ((CallsD.of fun _ => IDs_ok hF30 (by omega)).a).mono ?_
  rintro u1 s143 ⟨hu1, fr143⟩
  refine ⟨_, rfl, ((CallsD.of fun _ => IDs_ok (hF230.ext hu1.fwd fr143) (by omega)).a).mono ?_⟩
  rintro u2 s146 ⟨hu2, fr146⟩
  have h2 := hu2.sl
  rw [← si] at h2
  refine ⟨_, rfl, ((CallsD.of fun _ => sameIDs_ok (hu1.sl.ext hu2.fwd) h2 (by omega)).a).mono ?_⟩
  rintro _ s149 ⟨⟨rfl, f149⟩, fr149⟩
  refine ⟨true, rfl, bsel_of (fun _ => ?_) fun c => by simp at c⟩
  have F149 := (hu1.fwd.trans hu2.fwd).trans f149
  refine ((CallsD.of fun _ => Roots_ok (hF30.ext F149 fr149) hS.kids.hid (fun i hi => (hrl i hi).1) (by omega)).a).mono ?_
  rintro u3 s152 ⟨⟨⟨hu3, _⟩, f152⟩, fr152⟩
  refine ⟨_, rfl, ((CallsD.of fun _ => Roots_ok (hF230.ext (F149.trans f152) fr152) hS2.kids.hid (fun i hi => (hrl2 i hi).1) (by omega)).a).mono ?_⟩
  rintro u4 s155 ⟨⟨⟨hu4, _⟩, f155⟩, fr155⟩
  rw [← sr] at hu4
  refine ⟨_, rfl, ((CallsD.of fun _ => sameIDs_ok (hu3.ext f155) hu4 (by omega)).a).mono ?_⟩
  rintro _ s158 ⟨⟨rfl, _⟩, _⟩
  exact ⟨true, rfl, rfl⟩
end
end Go.Eng.S

namespace Go.Eng.S
open Go Go.Eng Go.Proofs Go.RowKit Go.Lib
set_option linter.constructorNameAsVariable false
noncomputable section
theorem ints_read {H : Type} {enc : TypeId × Value → H} {w : World} {base : Nat} {held : Bool} {fuel : Nat} {v : Value} {x : DataW H × List MemPlace} {g3 g4 : Nat} (hT : TabsW g3 g4 w) (h : DataW.trod enc P w base (fun _ => true) held fuel T.sl_int [v] = some x) :
  ∃ (a : AV) (l : List Int), absV w.heap.size v = some a ∧ Sl ordE (stT g3 g4 w) a l ∧ (∀ n, n ∈ l → -9223372036854775808 ≤ n ∧ n < 9223372036854775808) ∧ l.length ≤ maxLen := by
 obtain ⟨a, l, h1, h2, h3, h4, _⟩ := slice_read2 ordE (fun n => -9223372036854775808 ≤ n ∧ n < 9223372036854775808) h Tryd.underlying23 (by kernel_rfl) fun n cs y hy hl => by
  obtain ⟨hr, e0, _, w0⟩ := DataW.trod_int Tryd.underlying3 hy
  have h1 := bounds_i64 w0
  subst e0
  refine ⟨hr, ⟨h1.1, show hr < _ by omega⟩, fun j hj => ?_⟩
  have hj : j < 1 := hj
  obtain rfl : j = 0 := by omega
  exact ⟨_, _, rfl, rfl, rfl⟩
 exact ⟨a, l, h1, h2.toT hT h1 (fun a c hc n e => by simp [oneE] at hc; rw [← hc] at e; simp at e), h3, h4⟩
theorem ForestAlone_walk {H : Type} {enc : TypeId × Value → H} {w : World} {base : Nat} {held : Bool} {f0 f1 : Nat} {v0 v1 : Value} {x0 x1 : DataW H × List MemPlace} (hT : TabsW 0 1 w) (h0 : DataW.trod enc P w base (fun _ => true) held f0 T.sl_api_Span [v0] = some x0) (h1 : DataW.trod enc P w base (fun _ => true) held f1 T.sl_int [v1] = some x1)
  (hs : slcLen x0.1 * 168 ≤ 140737488351232) :
  Calls P F.spoorlaw10_ForestAlone #[v0, v1] w fun e w' => e = .returned (.bool true) ∧ Below w.heap.size w w' := by
 obtain ⟨a, l, a1, a2, a3, _, _, a4⟩ := spans_read hT h0
 obtain ⟨b, m, b1, b2, b3, b4⟩ := ints_read hT h1
 exact CallsA.topT hT (ForestAlone_ok (stT_tabs hT) a2 a3 b2 b3 (by unfold maxLen at b4; omega) (by unfold pow48; omega)) (.cons (absT_ok a1) (.cons (absT_ok b1) .nil))
end
end Go.Eng.S

