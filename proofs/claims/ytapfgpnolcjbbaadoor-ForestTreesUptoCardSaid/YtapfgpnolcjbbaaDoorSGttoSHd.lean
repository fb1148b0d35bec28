/-
  A forest is gone through: down, up.
  All nodes of a forest, the IDs above a span: as lists.
  A forest's spans, each ahead of those beneath it: each once. Plain.
  Two spans, two lists of IDs that are one; spans in another order.
  A forest hangs on the set of spans: plain; 'ForestAlone'.
  Trees: clips, who is last above, how one goes down, how many children there are. Plain.
  Roots and children are in their order; each node is told ahead of those beneath it.
  'ForestTrees': every span in one tree, once; clips.
  'ForestTrees': the walk.
-/
import Derived.Test.YtapfgpnolcjbbaaDoorSGfto0
import Derived.Test.YtapfgpnolcjbbaaDoorSVhatoSVhf
import Derived.Test.YtapfgpnolcjbbaaDoorW15to28
import Derived.Test.YtapfgpnolcjbbaaDoorW35to39
set_option linter.unusedVariables false
set_option linter.unusedSimpArgs false
namespace Go.Eng.S
open Go Go.Eng Go.Proofs
set_option linter.constructorNameAsVariable false
noncomputable section
attribute [local irreducible] bsel
def tellV (m1 m3 : Nat) : AV := .func F.p_forest_Forest_Down_S1_S1 [] [.ptr m1 0, .ptr m3 0]
theorem get_tell : D.fn.get F.p_forest_Forest_Down_S1_S1 = some (fnI Tryd.f41) := by kernel_rfl
theorem rt_tell : rt F.p_forest_Forest_Down_S1_S1 = [T.ybool_4] := by kernel_rfl
theorem ty_bool : D.ty.get T.ybool_4 = some { d := .bool, size := 1, bytes := 1, zero := some (.bool false), held := false } := by kernel_rfl
theorem exRes_bool {K : AV → Prop} {c : Bool} (h : K (.bool c)) : exRes D [T.ybool_4] K := by
 unfold exRes exTs exT
 rw [ty_bool]
 exact ⟨c, h⟩
attribute [local irreducible] exRes
theorem callK_tell {m1 m3 : Nat} {a : AV} {s : St} {K : AV → St → Prop} (h : CallsD P F.p_forest_Forest_Down_S1_S1 [a, .ptr m1 0, .ptr m3 0] s fun v s' => ∃ c : Bool, v = .bool c ∧ K (.bool c) s') : callK P D rt true s (tellV m1 m3) [a] K := by
 have key : ∀ v s', (∃ c : Bool, v = .bool c ∧ K (.bool c) s') → exRes D [T.ybool_4] fun u => v = u ∧ K u s' := by
  intro v s' hv
  obtain ⟨c, e, hk⟩ := hv
  rw [e]
  exact exRes_bool (K := fun u => AV.bool c = u ∧ K u s') (c := c) ⟨rfl, hk⟩
 have h2 := h.mono key
 unfold tellV callK
 dsimp only
 unfold fnK
 rw [get_tell]
 dsimp only
 rw [rt_tell]
 exact h2
section
variable {s0 sb : St} {f : Nat} {B : Int → Nat} {o : Nat → Tg} {S : FoD} {M : List Nat} {l0 m1 m3 n : Nat} {arg : Nat → List AV} {J : Nat → St → Prop} {Z : St → Prop}
def RoundsD (P : Program) (M : List Nat) (sb : St) (l0 m1 m3 n : Nat) (arg : Nat → List AV) (J : Nat → St → Prop) (Z : St → Prop) : Prop :=
 ∀ i s1, i < n → J i s1 → s1.h.get m1 ≠ none → s1.h.get m3 ≠ none → Frw M sb s1 → Fr s1 →
  RoundD P l0 (arg i) s1 fun v s2 => (Frw M sb s2 ∧ Fr s2 ∧ s2.h.get m1 = s1.h.get m1 ∧ s2.h.get m3 = s1.h.get m3) ∧ ((v = .bool true ∧ J (i + 1) s2) ∨ (v = .bool false ∧ Z s2))
set_option maxHeartbeats 1000000 in
set_option maxRecDepth 10000 in
theorem tell_ok (hF : Fo s0 sb f B o S) (hM : ∀ m, m ∈ M → 7 ≤ (o m).1) (hM0 : ∀ m, m ∈ M → s0.h.get m = none) (hT : TreeI S) (hr : RoundsD P M sb l0 m1 m3 n arg J Z) (hst : ∀ i s1 s2, J i s1 → Frw [] s1 s2 → J i s2) :
  ∀ (fuel : Nat) (anc l : List Int) (x : AV) (s : St) (i0 : Nat), anc.Nodup → (∀ i, i ∈ anc → i ∈ S.N) → S.N.length ≤ anc.length + fuel → (∀ i, i ∈ l → i ∈ S.N ∧ AncOk S (i :: anc) ∧ i ∉ anc) → So (ptE B) sb x l → (∀ c, c ∈ blkOf x → (o c).1 < 7) → l.length < 1000000 →
   (∀ q (h : q < (preN S.kd fuel l).length), i0 + q < n ∧ arg (i0 + q) = [.agg (S.pl (preN S.kd fuel l)[q]).n.cells]) →
   Frw M sb s → Fr s → Own s m1 [.yld l0] → Own s m3 [tellV m1 m3] → J i0 s →
   CallsD P F.p_forest_Forest_Down_S1_S1 [x, .ptr m1 0, .ptr m3 0] s fun v s' => (Frw M sb s' ∧ Fr s' ∧ Own s' m1 [.yld l0] ∧ Own s' m3 [tellV m1 m3]) ∧ ((v = .bool true ∧ J (i0 + (preN S.kd fuel l).length) s') ∨ (v = .bool false ∧ Z s')) := by
 intro fuel
 induction fuel with
 | zero =>
  intro anc l x s i0 hnd hN hfu hl hx hxt hsz harg hf hfr o1 o3 hJ
  have hnil : l = [] := by
   cases l with
   | nil => rfl
   | cons i r =>
    obtain ⟨h1, h2, h3⟩ := hl i (List.mem_cons_self ..)
    have := nodup_len (l := i :: anc) (List.nodup_cons.2 ⟨h3, hnd⟩) (fun y hy => by
     rcases List.mem_cons.1 hy with rfl | hy
     ·exact h1
     ·exact hN y hy)
    simp only [List.length_cons] at this
    omega
  subst hnil
  refine vc.p_forest_Forest_Down_S1_S1_ok ((Sl.fwdM hx.sl hf fun m hm hc => by have := hM m hm; have := hxt m hc; omega).slen ⟨fun k s' _ => k = 0 ∧ s' = s, ⟨0, rfl, rfl⟩, ?_⟩)
  rintro _ _ _ ⟨rfl, rfl⟩
  exact bsel_of (fun c => by simp at c) fun _ => ⟨⟨hf, hfr, o1, o3⟩, .inl ⟨rfl, hJ⟩⟩
 | succ fuel ih =>
  intro anc l x s i0 hnd hN hfu hl hx hxt hsz harg hf hfr o1 o3 hJ
  refine vc.p_forest_Forest_Down_S1_S1_ok ((Sl.fwdM hx.sl hf fun m hm hc => by have := hM m hm; have := hxt m hc; omega).slen ?_)
  refine ⟨fun k s' m => ∃ q : Nat, k = q ∧ m = l.length - q ∧ q ≤ l.length ∧ Frw M sb s' ∧ Fr s' ∧ Own s' m1 [.yld l0] ∧ Own s' m3 [tellV m1 m3] ∧ J (i0 + (preN S.kd (fuel + 1) (l.take q)).length) s',
   ⟨_, 0, rfl, rfl, by omega, hf, hfr, o1, o3, by simpa [preN] using hJ⟩, ?_⟩
  rintro _ s5 _ ⟨q, rfl, rfl, hq, hf5, hfr5, o15, o35, hJ5⟩
  refine bsel_of (fun c => ?_) fun c => ?_
  ·have c : q < l.length := by simpa using c
   have htk : l.take (q + 1) = l.take q ++ [l[q]] := List.take_succ_eq_append_getElem c
   have hsp : preN S.kd (fuel + 1) l = preN S.kd (fuel + 1) (l.take q) ++ (l[q] :: preN S.kd fuel (S.kd l[q])) ++ preN S.kd (fuel + 1) (l.drop (q + 1)) := by
    have e : l = l.take q ++ l[q] :: l.drop (q + 1) := by rw [← List.drop_eq_getElem_cons c, List.take_append_drop]
    have e2 := congrArg (preN S.kd (fuel + 1)) e
    rw [e2]
    simp only [preN, List.flatMap_append, List.flatMap_cons, List.append_assoc, List.cons_append]
   have hnx : preN S.kd (fuel + 1) (l.take (q + 1)) = preN S.kd (fuel + 1) (l.take q) ++ (l[q] :: preN S.kd fuel (S.kd l[q])) := by
    rw [htk]
    simp only [preN, List.flatMap_append, List.flatMap_cons, List.flatMap_nil, List.append_nil]
   obtain ⟨hjN, hjA, hja⟩ := hl _ (List.getElem_mem c)
   refine (Sl.fwdM hx.sl hf5 fun m hm hc => by have := hM m hm; have := hxt m hc; omega).ixs rfl rfl c fun b o' hr' => ⟨_, hr'.ld1 0 rfl, ?_⟩
   generalize l[q] = j at hsp hnx hjN hjA hja
   generalize hA : preN S.kd (fuel + 1) (l.take q) = A at hsp hnx hJ5
   intro s10 b10
   have hf10 := hf5.x b10.fwd
   have o110 := o15.ext b10.fwd
   have o310 := o35.ext b10.fwd
   have hF10 := hF.beside hf10 b10.fr hM hM0
   have hp := hF10.pl j hjN
   have ha0 := harg A.length (by rw [hsp]; simp only [List.length_append, List.length_cons]; omega)
   have e0 : (preN S.kd (fuel + 1) l)[A.length]'(by rw [hsp]; simp only [List.length_append, List.length_cons]; omega) = j := by simp [hsp]
   rw [e0] at ha0
   refine ⟨_, o110.ld1 0 rfl, ptrK_of ⟨_, _, _, _, _, _, _, hp.own.ldN 13 7 (by simp [Pl.cells, SpX.cells, Nd.cells]), callK_yldD ?_⟩⟩
   have hrd := hr (i0 + A.length) s10 ha0.1 (hst _ _ _ hJ5 b10.fwd) o110.there o310.there hf10 b10.fr
   rw [ha0.2] at hrd
   refine hrd.mono ?_
   rintro v s22 ⟨⟨f22, fr22, e1, e3⟩, hv⟩
   have o122 := o110.same e1
   have o322 := o310.same e3
   have hF22 := hF.beside f22 fr22 hM hM0
   rcases hv with ⟨rfl, hJ22⟩ | ⟨rfl, hZ⟩
   ·refine ⟨true, rfl, bsel_of (fun c => by simp at c) fun _ => ?_⟩
    have hp22 := hF22.pl j hjN
    refine ⟨_, o322.ld1 0 rfl, ptrK_of ⟨_, hp22.own.ld1 20 rfl, callK_tell ?_⟩⟩
    have hkl := hT.len j hjN
    refine (ih (j :: anc) (S.kd j) (S.pl j).k s22 (i0 + A.length + 1) (List.nodup_cons.2 ⟨hja, hnd⟩) (fun y hy => by
     rcases List.mem_cons.1 hy with rfl | hy
     ·exact hjN
     ·exact hN y hy) (by simp only [List.length_cons]; omega) (fun y hy => ?_) (hF.pl j hjN).kids (fun c hc => by rw [(hF.pl j hjN).tk c hc]; exact (by decide : (5 : Nat) < 7)) hkl (fun p hp' => ?_) f22 fr22 o122 o322 hJ22).mono ?_
    ·obtain ⟨k1, k2⟩ := hjA.notin hT hjN hy
     exact ⟨(hT.kids j hjN y hy).1, k2, k1⟩
    ·have hlt : A.length + 1 + p < (preN S.kd (fuel + 1) l).length := by rw [hsp]; simp; omega
     have := harg (A.length + 1 + p) hlt
     have e : (preN S.kd (fuel + 1) l)[A.length + 1 + p] = (preN S.kd fuel (S.kd j))[p] := by
      simp only [hsp]
      rw [List.getElem_append_left (by simp; omega), List.getElem_append_right (by omega)]
      simp [show A.length + 1 + p - A.length = p + 1 by omega]
     rw [e] at this
     rw [show i0 + A.length + 1 + p = i0 + (A.length + 1 + p) by omega]
     exact this
    ·rintro v s29 ⟨⟨f29, fr29, o129, o329⟩, hv⟩
     rcases hv with ⟨rfl, hJ29⟩ | ⟨rfl, hZ⟩
     ·refine ⟨true, rfl, true, rfl, bsel_of (fun c => by simp at c) fun _ => ⟨l.length - (q + 1), by omega, q + 1, wrap_i64 (by omega) (by omega), rfl, by omega, f29, fr29, o129, o329, ?_⟩⟩
      rw [hnx]
      have e : i0 + (A ++ j :: preN S.kd fuel (S.kd j)).length = i0 + A.length + 1 + (preN S.kd fuel (S.kd j)).length := by simp; omega
      rw [e]; exact hJ29
     ·exact ⟨false, rfl, false, rfl, bsel_of (fun _ => ⟨⟨f29, fr29, o129, o329⟩, .inr ⟨rfl, hZ⟩⟩) fun c => by simp at c⟩
   ·exact ⟨false, rfl, bsel_of (fun _ => ⟨⟨f22, fr22, o122, o322⟩, .inr ⟨rfl, hZ⟩⟩) fun c => by simp at c⟩
  ·have c : q = l.length := by simp at c; omega
   subst c
   rw [List.take_length] at hJ5
   exact ⟨⟨hf5, hfr5, o15, o35⟩, .inl ⟨rfl, hJ5⟩⟩
end
theorem get_Down1 : D.fn.get F.p_forest_Forest_Down_S1 = some (fnI Tryd.f40) := by kernel_rfl
set_option maxHeartbeats 1000000 in
set_option maxRecDepth 10000 in
theorem Down_it {s0 s : St} {f : Nat} {B : Int → Nat} {o : Nat → Tg} {S : FoD} (h : Fo s0 s f B o S) (hT : TreeI S) (hrl : ∀ i, i ∈ S.rl → i ∈ S.N ∧ (S.pl i).n.org ≠ 0) (hsz : S.rl.length < 1000000) {M : List Nat} (hM : ∀ m, m ∈ M → 7 ≤ (o m).1 ∧ s0.h.get m = none ∧ s.h.get m ≠ none) :
  CallsD P F.p_forest_Forest_Down [.ptr f 0] s fun v s' => SeqD P D M s' v S.order.length (fun i => [.agg (S.pl (S.order.getD i 0)).n.cells]) ∧ Frw [] s s' := by
 refine vc.p_forest_Forest_Down_ok (oneK_ptr fun m s2 n2 => ⟨?_, n2.fwd⟩)
 have h2 := h.ext n2.fwd n2.fr
 have om : Own s2 m [.ptr f 0] := n2.own
 have hmM : m ∉ M := fun hm => (hM m hm).2.2 n2.gone
 intro l st J Z K hst hfst hJ0 hro hstab hK
 refine itKD_of get_Down1 ?_
 show CallsD P F.p_forest_Forest_Down_S1 [.yld l, .ptr m 0] st _
 refine vc.p_forest_Forest_Down_S1_ok ?_
 show ∀ m1 s3, NewO st (cellsO [.yld l]) m1 s3 → _
 intro m1 s3 n3 m3 s4 n4
 obtain ⟨s5, w5, o5, f5, fr5⟩ := n4.put [tellV m1 m3] rfl rfl
 have hne : m1 ≠ m3 := n4.ne n3.own.there
 have hf5 : Frw [] st s5 := n3.fwd.trans f5
 refine ⟨s5, w5, fun s6 b6 => ?_⟩
 have hf6 : Frw [] st s6 := hf5.trans b6.fwd
 have F6 : Frw M s2 s6 := hst.x hf6
 have hF6 := h2.beside F6 b6.fr (fun m hm => (hM m hm).1) (fun m hm => (hM m hm).2.1)
 have o16 : Own s6 m1 [.yld l] := (n3.own.ext f5).ext b6.fwd
 have o36 : Own s6 m3 [tellV m1 m3] := o5.ext b6.fwd
 let U : Nat → Prop := fun c => c = m1 ∨ c = m3
 have hU : ∀ c, U c → st.h.get c = none := by
  rintro c (rfl | rfl)
  ·exact n3.gone
  ·exact n3.fwd.none n4.gone (by simp)
 refine ⟨_, o36.ld1 0 rfl, _, (om.fwd F6 hmM).ld1 0 rfl, ptrK_of ⟨_, hF6.own.ld1 2 rfl, callK_tell ?_⟩⟩
 refine (tell_ok (n := S.order.length) (J := J U) (Z := Z) (arg := fun i => [.agg (S.pl (S.order.getD i 0)).n.cells]) h2 (fun m hm => (hM m hm).1) (fun m hm => (hM m hm).2.1) hT (fun i s1 hi hJ t1 t3 hf hfr => ?_) (hstab U) S.N.length [] S.rl S.rts s6 0 (by simp) (by simp) (by simp) (fun i hi => ?_) h2.rts (fun c hc => by rw [h2.tr c hc]; exact (by decide : (3 : Nat) < 7)) hsz (fun q hq => ?_) F6 b6.fr o16 o36 (hJ0 U s6 hU hf6)).mono ?_
 ·refine (hro U i s1 hi hJ (fun c hc => ⟨hU c hc, ?_⟩) hf hfr).mono fun v s' ⟨⟨g1, g2, g3⟩, g4⟩ => ⟨⟨g1, g2, g3 _ (.inl rfl), g3 _ (.inr rfl)⟩, g4⟩
  rcases hc with rfl | rfl
  ·exact t1
  ·exact t3
 ·obtain ⟨k1, k2⟩ := hrl i hi
  exact ⟨k1, k2, by simp⟩
 ·refine ⟨by rw [Nat.zero_add]; exact hq, ?_⟩
  rw [Nat.zero_add]
  have e : S.order.getD q 0 = (preN S.kd S.N.length S.rl)[q] := getD_lt (l := S.order) hq
  show [AV.agg (S.pl (S.order.getD q 0)).n.cells] = _
  rw [e]
 ·rintro v s13 ⟨⟨g1, g2, _, _⟩, hv⟩
  rcases hv with ⟨rfl, hv⟩ | ⟨rfl, hv⟩
  ·rw [Nat.zero_add] at hv
   exact ⟨true, rfl, true, rfl, hK U _ (.inl hv) g1 g2⟩
  ·exact ⟨false, rfl, false, rfl, hK U _ (.inr hv) g1 g2⟩
theorem get_Above1 : D.fn.get F.p_forest_Forest_Above_S1 = some (fnI Tryd.f39) := by kernel_rfl
set_option maxHeartbeats 1000000 in
set_option maxRecDepth 10000 in
theorem Above_it {s0 s : St} {f : Nat} {B : Int → Nat} {o : Nat → Tg} {S : FoD} (h : Fo s0 s f B o S) (hT : TreeI S) (hpar : ∀ i, i ∈ S.N → (S.pl i).n.org = 0 → (S.pl i).n.par = (S.C i).par) (i : Int) {M : List Nat} (hM : ∀ m, m ∈ M → 7 ≤ (o m).1 ∧ s0.h.get m = none ∧ s.h.get m ≠ none) :
  CallsD P F.p_forest_Forest_Above [.ptr f 0, .int .u64 i] s fun v s' => SeqD P D M s' v (S.above i).length (fun k => [.int .u64 ((S.above i).getD k 0)]) ∧ Frw [] s s' := by
 refine vc.p_forest_Forest_Above_ok (oneK_ptr fun m s2 n2 m' s3 n3 => ⟨?_, n2.fwd.trans n3.fwd⟩)
 have h3 := (h.ext n2.fwd n2.fr).ext n3.fwd n3.fr
 have om : Own s3 m [.ptr f 0] := n2.own.ext n3.fwd
 have om' : Own s3 m' [.int .u64 i] := n3.own
 have hmM : m ∉ M := fun hm => (hM m hm).2.2 n2.gone
 have hmM' : m' ∉ M := fun hm => (hM m' hm).2.2 (n2.fwd.none n3.gone (by simp))
 have hM1 := fun m hm => (hM m hm).1
 have hM2 := fun m hm => (hM m hm).2.1
 intro l st J Z K hst hfst hJ0 hro hstab hK
 refine itKD_of get_Above1 ?_
 show CallsD P F.p_forest_Forest_Above_S1 [.yld l, .ptr m 0, .ptr m' 0] st _
 refine vc.p_forest_Forest_Above_S1_ok ?_
 intro s4 b4
 have F4 : Frw M s3 s4 := hst.x b4.fwd
 have hF4 := h3.beside F4 b4.fr hM1 hM2
 have hat : ∀ c, atV S B c = ptO B (if c ∈ S.N then some c else none) := fun c => by unfold atV; split <;> rfl
 let U : Nat → Prop := fun _ => False
 obtain ⟨k0, e0, e1, _⟩ := upO_end hT i
 refine ⟨_, (om.fwd F4 hmM).ld1 0 rfl, ptrK_of ⟨_, hF4.own.ld1 0 rfl, _, (om'.fwd F4 hmM').ld1 0 rfl, _, hF4.look _, ?_⟩⟩
 refine ⟨fun x s' k => ∃ (c : Int) (j : Nat), x = atV S B c ∧ itU S.upO k c = none ∧ j ≤ (S.above i).length ∧ (S.above i).drop j = abN S k c ∧ Frw M s3 s' ∧ Fr s' ∧ J U j s',
  ⟨k0, i, 0, rfl, e0, by omega, e1.symm, F4, b4.fr, hJ0 U s4 (fun c hc => hc.elim) b4.fwd⟩, ?_⟩
 rintro _ s11 k ⟨c, j, rfl, hend, hj, hdr, F11, fr11, hJ11⟩
 have hF11 := h3.beside F11 fr11 hM1 hM2
 obtain ⟨k, rfl⟩ : ∃ k', k = k' + 1 := by
  cases k with
  | zero => simp [itU] at hend
  | succ k => exact ⟨k, rfl⟩
 have hlast : ¬ (c ∈ S.N ∧ (S.pl c).n.org = 0) → J U (S.above i).length s11 := fun hn => by
  simp only [abN] at hdr
  rw [if_neg hn] at hdr
  have := congrArg List.length hdr
  simp only [List.length_drop, List.length_nil] at this
  have : j = (S.above i).length := by omega
  rw [← this]; exact hJ11
 rw [hat]
 refine nilK_ptO (bsel_of (fun e => ?_) fun e => ?_)
 ·have hc : c ∈ S.N := by
   apply Classical.byContradiction
   intro hn
   rw [if_neg hn] at e
   simp at e
  rw [if_pos hc]
  have hp := hF11.pl c hc
  refine ptrK_of ⟨_, hp.own.ld1 15 rfl, bsel_of (fun e2 => ?_) fun e2 => ?_⟩
  ·have e2 : (S.pl c).n.org = 0 := by simpa using e2
   have hpN := (hT.all c hc e2).1
   have hu : S.upO c = some (S.C c).par := by
    unfold FoD.upO upI upC
    rw [if_pos ⟨hc, e2⟩, if_pos hpN]
   simp only [itU, hu, Option.bind_some] at hend
   simp only [abN] at hdr
   rw [if_pos ⟨hc, e2⟩] at hdr
   have hjl : j < (S.above i).length := by
    have := congrArg List.length hdr
    simp only [List.length_drop, List.length_cons] at this
    omega
   have hget : (S.above i)[j] = (S.C c).par := by
    rw [List.drop_eq_getElem_cons hjl] at hdr
    exact (List.cons.inj hdr).1
   have hdr' : (S.above i).drop (j + 1) = abN S k (S.C c).par := by
    rw [List.drop_eq_getElem_cons hjl] at hdr
    exact (List.cons.inj hdr).2
   refine ptrK_of ⟨_, hp.own.ld1 14 rfl, callK_yldD ?_⟩
   rw [hpar c hc e2]
   have hrd := hro U j s11 hjl hJ11 (fun c hc => hc.elim) F11 fr11
   dsimp only at hrd
   rw [getD_lt hjl, hget] at hrd
   refine hrd.mono ?_
   rintro v s21 ⟨⟨g1, g2, _⟩, hv⟩
   rcases hv with ⟨rfl, hJ21⟩ | ⟨rfl, hZ⟩
   ·refine ⟨true, rfl, bsel_of (fun c => by simp at c) fun _ => ?_⟩
    intro s23 b23
    have F23 := g1.x b23.fwd
    have hF23 := h3.beside F23 b23.fr hM1 hM2
    refine ⟨_, (om.fwd F23 hmM).ld1 0 rfl, ptrK_of ⟨_, hF23.own.ld1 0 rfl, ptrK_of ⟨_, (hF23.pl c hc).own.ld1 14 rfl, _, hF23.look _, k, by omega, (S.C c).par, j + 1, by rw [hpar c hc e2], hend, by omega, hdr', F23, b23.fr, hstab _ _ _ _ hJ21 b23.fwd⟩⟩⟩
   ·exact ⟨false, rfl, bsel_of (fun _ => hK U _ (.inr hZ) g1 g2) fun c => by simp at c⟩
  ·have e2 : ¬ (S.pl c).n.org = 0 := by simpa using e2
   exact hK U _ (.inl (hlast fun h => e2 h.2)) F11 fr11
 ·have hc : c ∉ S.N := by
   intro hn
   rw [if_pos hn] at e
   simp at e
  exact hK U _ (.inl (hlast fun h => hc h.1)) F11 fr11
end
end Go.Eng.S

namespace Go.Eng.S
open Go Go.Eng Go.Proofs
set_option linter.constructorNameAsVariable false
noncomputable section
attribute [local irreducible] bsel
def nodeE : Enc Nd := ⟨Nd.cells, 7, by decide, fun _ => rfl⟩
theorem Frw.same {M : List Nat} {s s' : St} (h : Frw M s s') {c : Nat} (hc : c ∉ M) (ht : s.h.get c ≠ none) : s'.h.get c = s.h.get c := by
 cases hx : s.h.get c with
 | none => exact absurd hx ht
 | some ob => exact h.1 c ob hc hx
theorem notin1 {m : Nat} {l : List Nat} (h : m ∉ l) : ∀ c, c ∈ [m] → c ∉ l := fun c hc => by rw [List.mem_singleton.1 hc]; exact h
theorem objAt_there {s : St} {b : Nat} {o : AObj} (h : objAt s b = some o) : s.h.get b ≠ none := by
 unfold objAt at h; rw [h]; simp
set_option maxHeartbeats 2000000 in
set_option maxRecDepth 10000 in
theorem nodes_ok {s0 s : St} {f : Nat} {B : Int → Nat} {o : Nat → Tg} {S : FoD} (h : Fo s0 s f B o S) (hT : TreeI S) (hrl : ∀ i, i ∈ S.rl → i ∈ S.N ∧ (S.pl i).n.org ≠ 0) (hsz : S.rl.length < 1000000) (hlen : S.order.length ≤ 1000000) :
  CallsD P F.spoorlaw10_nodes [.ptr f 0] s fun v s' => So nodeE s' v (S.order.map fun i => (S.pl i).n) ∧ Gone s v ∧ Frw [] s s' := by
 refine vc.spoorlaw10_nodes_ok ?_
 intro m1 s2 n2
 have h2 := (h.tag n2.gone (8, 2)).ext n2.fwd n2.fr
 have hg1 : s0.h.get m1 = none := h.fwd.none n2.gone (by simp)
 refine (CallsD.of fun _ => Down_it (M := [m1]) h2 hT hrl hsz ?_).mono ?_
 ·intro m hm
  have : m = m1 := by simpa using hm
  rw [this]
  exact ⟨by rw [updF_same]; exact (by decide : 7 ≤ 8), hg1, n2.own.there⟩
 rintro x3 s4 ⟨⟨hseq, f4⟩, fr4⟩
 refine ⟨_, rfl, fun m6 s7 n7 I8 m9 s10 n10 hro => ?_⟩
 have f410 : Frw [] s4 s10 := n7.fwd.trans n10.fwd
 have o14 : Own s4 m1 [.nilslice] := n2.own.ext f4
 have o110 : Own s10 m1 [.nilslice] := o14.ext f410
 have t9 : objAt s10 m9 = some (I8 none .ready) := n10.at
 have t6 : objAt s10 m6 = some (.dfd true) := objAt_fwd n7.at n10.fwd (by simp)
 have ne91 : m9 ≠ m1 := (n10.ne ((o14.ext n7.fwd).there)).symm
 have ne61 : m6 ≠ m1 := (n7.ne o14.there).symm
 have ne69 : m6 ≠ m9 := n10.ne (objAt_there n7.at)
 have g9 : s4.h.get m9 = none := n7.fwd.none n10.gone (by simp)
 have g6 : s4.h.get m6 = none := n7.gone
 refine hseq m9 s10 (fun U i s' => objAt s' m9 = some (I8 none .ready) ∧ objAt s' m6 = some (.dfd true) ∧ Frw [m1, m9] s10 s' ∧ ∃ x, Own s' m1 [x] ∧ So nodeE s' x ((S.order.take i).map fun i => (S.pl i).n) ∧ ∀ c, c ∈ blkOf x → ¬ U c ∧ s10.h.get c = none) (fun _ => False) _ (f410.mono (by simp)) n10.fr ?_ ?_ ?_ ?_
 ·intro U s1 _ hf
  exact ⟨objAt_fwd t9 hf (by simp), objAt_fwd t6 hf (by simp), hf.mono (by simp), .nilslice, o110.ext hf, .nil _ _, by simp [blkOf]⟩
 ·rintro U i s1 hi ⟨h9, h6, hk, x, ox, hx, hxb⟩ hU hf1 hfr1
  have xb1 : m1 ∉ blkOf x := fun hc => o110.there (hxb _ hc).2
  have xb9 : m9 ∉ blkOf x := fun hc => objAt_there t9 (hxb _ hc).2
  have xb6 : m6 ∉ blkOf x := fun hc => objAt_there t6 (hxb _ hc).2
  generalize hnd : (S.pl (S.order.getD i 0)).n = nd
  have hnd' : (S.order.take (i + 1)).map (fun i => (S.pl i).n) = (S.order.take i).map (fun i => (S.pl i).n) ++ [nd] := by
   rw [List.take_succ_eq_append_getElem hi, List.map_append, ← hnd, getD_lt hi]; rfl
  have hl1 : ((S.order.take i).map fun i => (S.pl i).n).length ≤ 1000000 := by simp; omega
  show RoundD P m9 [.agg (S.pl (S.order.getD i 0)).n.cells] s1 _
  rw [hnd]
  refine hro nd.id nd.par nd.org nd.tree nd.depth nd.fr nd.till s1 _ h9 fun m20 s21 n20 => ?_
  obtain ⟨s22, w22, o22, f22, fr22⟩ := n20.put nd.cells rfl rfl
  have h922 := objAt_fwd h9 f22 (by simp)
  obtain ⟨s23, hs23⟩ : ∃ s23, s23 = hsetS s22 m9 (I8 none .busy) := ⟨_, rfl⟩
  have f23 : Frw [m9] s22 s23 := hs23 ▸ hsetS_frw
  have fr23 : Fr s23 := hs23 ▸ objAt_fr h922 fr22
  have n209 : m20 ≠ m9 := (n20.ne (objAt_there h9)).symm
  have ox23 : Own s23 m1 [x] := (ox.ext f22).fwd f23 (by simpa using ne91.symm)
  refine ⟨s22, w22, h922, ?_⟩
  rw [← hs23]
  refine ⟨x, ox23.ld1 0 rfl, _, _, _, _, _, _, _, (o22.fwd f23 (by simpa using n209)).all rfl, fun m31 s32 n32 => ?_⟩
  have hx32 : So nodeE s32 x ((S.order.take i).map fun i => (S.pl i).n) := ((hx.ext f22).beside f23 (notin1 xb9)).ext n32.fwd
  obtain ⟨v, s34, w34, so34, f34, bv, fr34, _⟩ := hx32.append' (D := D) (t := T.sl_api_Node) (a := nd) (e := nd.cells) ty.sl_api_Node rfl ty.api_Node rfl rfl rfl rfl n32.own.rd rfl (show (((S.order.take i).map fun i => (S.pl i).n).length + 1 + (((S.order.take i).map fun i => (S.pl i).n).length + 1) / 4 + 600) * 56 ≤ pow48 by unfold pow48; omega) (by unfold pow48; omega) n32.fr
  have ox34 : Own s34 m1 [x] := (ox23.ext n32.fwd).fwd f34 xb1
  obtain ⟨s35, w35, o35, f35, fr35⟩ := wr_own1 ox34 fr34 0 v (ones_so so34) (by simp)
  have h923 : objAt s23 m9 = some (I8 none .busy) := hs23 ▸ objAt_set
  have h935 : objAt s35 m9 = some (I8 none .busy) := objAt_fwd (objAt_fwd (objAt_fwd h923 n32.fwd (by simp)) f34 xb9) f35 (by simpa using ne91)
  refine ⟨v, s34, w34, so34.sl.one ⟨s35, w35, h935, ?_⟩⟩
  obtain ⟨s36, hs36⟩ : ∃ s36, s36 = hsetS s35 m9 (I8 none .ready) := ⟨_, rfl⟩
  rw [← hs36]
  have f36 : Frw [m9] s35 s36 := hs36 ▸ hsetS_frw
  have fr36 : Fr s36 := hs36 ▸ objAt_fr h935 fr35
  have key : ∀ {M : List Nat} {a b : St}, Frw M a b → (∀ c, c ∈ M → c ∈ m9 :: m1 :: blkOf x) → Frw (m9 :: m1 :: blkOf x) a b := fun h hm => h.mono hm
  have F : Frw (m9 :: m1 :: blkOf x) s1 s36 := ((((key f22 (by simp)).trans (key f23 (by simp))).trans (key n32.fwd (by simp))).trans (key f34 (by simp +contextual))).trans ((key f35 (by simp)).trans (key f36 (by simp)))
  have F410 : ∀ c, s10.h.get c = none → s4.h.get c = none := fun c hc => f410.none hc (by simp)
  have F1 : Frw [m1] s4 s36 := hf1.go F fun c hc => by
   rcases List.mem_cons.1 hc with rfl | hc
   ·exact .inr g9
   ·rcases List.mem_cons.1 hc with rfl | hc
    ·exact .inl (by simp)
    ·exact .inr (F410 c (hxb c hc).2)
  have F2 : Frw [m1, m9] s10 s36 := hk.go F fun c hc => by
   rcases List.mem_cons.1 hc with rfl | hc
   ·exact .inl (by simp)
   ·rcases List.mem_cons.1 hc with rfl | hc
    ·exact .inl (by simp)
    ·exact .inr (hxb c hc).2
  have hvb : ∀ c, c ∈ blkOf v → s32.h.get c = none ∧ c ≠ m9 ∧ c ≠ m1 := fun c hc => by
   rw [bv] at hc
   have : c = s32.nx := by simpa using hc
   rw [this]
   have hn : s32.h.get s32.nx = none := n32.fr _ (Nat.le_refl _)
   exact ⟨hn, fun e => objAt_there (objAt_fwd h923 n32.fwd (by simp)) (e ▸ hn), fun e => (ox23.ext n32.fwd).there (e ▸ hn)⟩
  refine ⟨⟨F1, fr36, fun c hc => ?_⟩, .inl ⟨rfl, hs36 ▸ objAt_set, ?_, F2, v, o35.fwd f36 (by simpa using ne91.symm), ?_, fun c hc => ?_⟩⟩
  ·obtain ⟨u1, u2⟩ := hU c hc
   refine Frw.same F (fun hm => ?_) u2
   rcases List.mem_cons.1 hm with rfl | hm
   ·exact objAt_there t9 u1
   ·rcases List.mem_cons.1 hm with rfl | hm
    ·exact o110.there u1
    ·exact (hxb c hm).1 hc
  ·refine objAt_fwd h6 F fun hm => ?_
   rcases List.mem_cons.1 hm with e | hm
   ·exact ne69 e
   ·rcases List.mem_cons.1 hm with e | hm
    ·exact ne61 e
    ·exact xb6 hm
  ·rw [hnd']
   exact (so34.beside f35 fun c hc hcv => (hvb c hcv).2.2 (by simpa using hc)).beside f36 fun c hc hcv => (hvb c hcv).2.1 (by simpa using hc)
  ·obtain ⟨v1, v2, v3⟩ := hvb c hc
   have F32 : Frw [m9] s1 s32 := ((f22.mono (by simp)).trans f23).trans (n32.fwd.mono (by simp))
   have v4 : s1.h.get c = none := F32.none v1 (by simpa using v2)
   exact ⟨fun hu => (hU c hu).2 v4, hk.none v4 (by simp [v2, v3])⟩
 ·rintro U i s1 s2' ⟨h9, h6, hk, x, ox, hx, hxb⟩ hf
  exact ⟨objAt_fwd h9 hf (by simp), objAt_fwd h6 hf (by simp), hk.x hf, x, ox.ext hf, hx.ext hf, hxb⟩
 ·rintro U s1 (⟨h9, h6, hk, x, ox, hx, hxb⟩ | hz) hf1 hfr1
  ·have xb9 : m9 ∉ blkOf x := fun hc => objAt_there t9 (hxb _ hc).2
   have xb6 : m6 ∉ blkOf x := fun hc => objAt_there t6 (hxb _ hc).2
   have f39 : Frw [m9] s1 (hsetS s1 m9 (I8 none .exhausted)) := hsetS_frw
   have h639 : objAt (hsetS s1 m9 (I8 none .exhausted)) m6 = some (.dfd true) := (objAt_ne ne69).trans h6
   refine ⟨h9, x, (ox.fwd f39 (by simpa using ne91.symm)).ld1 0 rfl, _, endDs_one h639, ?_⟩
   have f40 : Frw [m6] (hsetS s1 m9 (I8 none .exhausted)) (hsetS (hsetS s1 m9 (I8 none .exhausted)) m6 (.dfd false)) := hsetS_frw
   rw [List.take_length] at hx
   have fs4 : Frw [] s s4 := n2.fwd.trans f4
   refine ⟨(hx.beside f39 (notin1 xb9)).beside f40 (notin1 xb6), fun c hc => (fs4.trans f410).none (hxb c hc).2 (by simp), ?_⟩
   refine ((fs4.go hf1 fun c hc => ?_).go f39 fun c hc => ?_).go f40 fun c hc => ?_
   ·have : c = m1 := by simpa using hc
    rw [this]; exact .inr n2.gone
   ·have : c = m9 := by simpa using hc
    rw [this]; exact .inr (fs4.none g9 (by simp))
   ·have : c = m6 := by simpa using hc
    rw [this]; exact .inr (fs4.none g6 (by simp))
  ·exact hz.elim
set_option maxHeartbeats 2000000 in
set_option maxRecDepth 10000 in
theorem above_ok {s0 s : St} {f : Nat} {B : Int → Nat} {o : Nat → Tg} {S : FoD} (h : Fo s0 s f B o S) (hT : TreeI S) (hpar : ∀ i, i ∈ S.N → (S.pl i).n.org = 0 → (S.pl i).n.par = (S.C i).par) (k : Int) (hlen : (S.above k).length ≤ 1000000) :
  CallsD P F.spoorlaw10_above [.ptr f 0, .int .u64 k] s fun v s' => So linkE s' v (S.above k) ∧ Gone s v ∧ Frw [] s s' := by
 refine vc.spoorlaw10_above_ok ?_
 intro m1 s2 n2
 have h2 := (h.tag n2.gone (8, 2)).ext n2.fwd n2.fr
 have hg1 : s0.h.get m1 = none := h.fwd.none n2.gone (by simp)
 refine (CallsD.of fun _ => Above_it (M := [m1]) h2 hT hpar k ?_).mono ?_
 ·intro m hm
  have : m = m1 := by simpa using hm
  rw [this]
  exact ⟨by rw [updF_same]; exact (by decide : 7 ≤ 8), hg1, n2.own.there⟩
 rintro x3 s4 ⟨⟨hseq, f4⟩, fr4⟩
 refine ⟨_, rfl, fun m6 s7 n7 I8 m9 s10 n10 hro => ?_⟩
 have f410 : Frw [] s4 s10 := n7.fwd.trans n10.fwd
 have o14 : Own s4 m1 [.nilslice] := n2.own.ext f4
 have o110 : Own s10 m1 [.nilslice] := o14.ext f410
 have t9 : objAt s10 m9 = some (I8 none .ready) := n10.at
 have t6 : objAt s10 m6 = some (.dfd true) := objAt_fwd n7.at n10.fwd (by simp)
 have ne91 : m9 ≠ m1 := (n10.ne ((o14.ext n7.fwd).there)).symm
 have ne61 : m6 ≠ m1 := (n7.ne o14.there).symm
 have ne69 : m6 ≠ m9 := n10.ne (objAt_there n7.at)
 have g9 : s4.h.get m9 = none := n7.fwd.none n10.gone (by simp)
 have g6 : s4.h.get m6 = none := n7.gone
 refine hseq m9 s10 (fun U i s' => objAt s' m9 = some (I8 none .ready) ∧ objAt s' m6 = some (.dfd true) ∧ Frw [m1, m9] s10 s' ∧ ∃ x, Own s' m1 [x] ∧ So linkE s' x ((S.above k).take i) ∧ ∀ c, c ∈ blkOf x → ¬ U c ∧ s10.h.get c = none) (fun _ => False) _ (f410.mono (by simp)) n10.fr ?_ ?_ ?_ ?_
 ·intro U s1 _ hf
  exact ⟨objAt_fwd t9 hf (by simp), objAt_fwd t6 hf (by simp), hf.mono (by simp), .nilslice, o110.ext hf, .nil _ _, by simp [blkOf]⟩
 ·rintro U i s1 hi ⟨h9, h6, hk, x, ox, hx, hxb⟩ hU hf1 hfr1
  have xb1 : m1 ∉ blkOf x := fun hc => o110.there (hxb _ hc).2
  have xb9 : m9 ∉ blkOf x := fun hc => objAt_there t9 (hxb _ hc).2
  have xb6 : m6 ∉ blkOf x := fun hc => objAt_there t6 (hxb _ hc).2
  generalize hnd : (S.above k).getD i 0 = nd
  have hnd' : (S.above k).take (i + 1) = (S.above k).take i ++ [nd] := by
   rw [List.take_succ_eq_append_getElem hi, ← hnd, getD_lt hi]
  have hl1 : ((S.above k).take i).length ≤ 1000000 := by simp; omega
  show RoundD P m9 [.int .u64 ((S.above k).getD i 0)] s1 _
  rw [hnd]
  obtain ⟨s22, f22, fr22, h922, hs22⟩ : ∃ s22, Frw [] s1 s22 ∧ Fr s22 ∧ objAt s22 m9 = some (I8 none .ready) ∧ s22 = s1 := ⟨s1, .refl _ _, hfr1, h9, rfl⟩
  refine hro nd s1 _ h9 ⟨h9, ?_⟩
  rw [← hs22]
  obtain ⟨s23, hs23⟩ : ∃ s23, s23 = hsetS s22 m9 (I8 none .busy) := ⟨_, rfl⟩
  have f23 : Frw [m9] s22 s23 := hs23 ▸ hsetS_frw
  have fr23 : Fr s23 := hs23 ▸ objAt_fr h922 fr22
  have ox23 : Own s23 m1 [x] := (ox.ext f22).fwd f23 (by simpa using ne91.symm)
  rw [← hs23]
  refine ⟨x, ox23.ld1 0 rfl, fun m31 s32 n32 => ?_⟩
  have hx32 : So linkE s32 x ((S.above k).take i) := ((hx.ext f22).beside f23 (notin1 xb9)).ext n32.fwd
  obtain ⟨v, s34, w34, so34, f34, bv, fr34, _⟩ := hx32.append' (D := D) (t := T.sl_api_SpanID) (a := nd) (e := [.int .u64 nd]) ty.sl_api_SpanID rfl ty.api_SpanID rfl rfl rfl rfl n32.own.rd rfl (show (((S.above k).take i).length + 1 + (((S.above k).take i).length + 1) / 4 + 600) * 8 ≤ pow48 by unfold pow48; omega) (by unfold pow48; omega) n32.fr
  have ox34 : Own s34 m1 [x] := (ox23.ext n32.fwd).fwd f34 xb1
  obtain ⟨s35, w35, o35, f35, fr35⟩ := wr_own1 ox34 fr34 0 v (ones_so so34) (by simp)
  have h923 : objAt s23 m9 = some (I8 none .busy) := hs23 ▸ objAt_set
  have h935 : objAt s35 m9 = some (I8 none .busy) := objAt_fwd (objAt_fwd (objAt_fwd h923 n32.fwd (by simp)) f34 xb9) f35 (by simpa using ne91)
  refine ⟨v, s34, w34, so34.sl.one ⟨s35, w35, h935, ?_⟩⟩
  obtain ⟨s36, hs36⟩ : ∃ s36, s36 = hsetS s35 m9 (I8 none .ready) := ⟨_, rfl⟩
  rw [← hs36]
  have f36 : Frw [m9] s35 s36 := hs36 ▸ hsetS_frw
  have fr36 : Fr s36 := hs36 ▸ objAt_fr h935 fr35
  have key : ∀ {M : List Nat} {a b : St}, Frw M a b → (∀ c, c ∈ M → c ∈ m9 :: m1 :: blkOf x) → Frw (m9 :: m1 :: blkOf x) a b := fun h hm => h.mono hm
  have F : Frw (m9 :: m1 :: blkOf x) s1 s36 := ((((key f22 (by simp)).trans (key f23 (by simp))).trans (key n32.fwd (by simp))).trans (key f34 (by simp +contextual))).trans ((key f35 (by simp)).trans (key f36 (by simp)))
  have F410 : ∀ c, s10.h.get c = none → s4.h.get c = none := fun c hc => f410.none hc (by simp)
  have F1 : Frw [m1] s4 s36 := hf1.go F fun c hc => by
   rcases List.mem_cons.1 hc with rfl | hc
   ·exact .inr g9
   ·rcases List.mem_cons.1 hc with rfl | hc
    ·exact .inl (by simp)
    ·exact .inr (F410 c (hxb c hc).2)
  have F2 : Frw [m1, m9] s10 s36 := hk.go F fun c hc => by
   rcases List.mem_cons.1 hc with rfl | hc
   ·exact .inl (by simp)
   ·rcases List.mem_cons.1 hc with rfl | hc
    ·exact .inl (by simp)
    ·exact .inr (hxb c hc).2
  have hvb : ∀ c, c ∈ blkOf v → s32.h.get c = none ∧ c ≠ m9 ∧ c ≠ m1 := fun c hc => by
   rw [bv] at hc
   have : c = s32.nx := by simpa using hc
   rw [this]
   have hn : s32.h.get s32.nx = none := n32.fr _ (Nat.le_refl _)
   exact ⟨hn, fun e => objAt_there (objAt_fwd h923 n32.fwd (by simp)) (e ▸ hn), fun e => (ox23.ext n32.fwd).there (e ▸ hn)⟩
  refine ⟨⟨F1, fr36, fun c hc => ?_⟩, .inl ⟨rfl, hs36 ▸ objAt_set, ?_, F2, v, o35.fwd f36 (by simpa using ne91.symm), ?_, fun c hc => ?_⟩⟩
  ·obtain ⟨u1, u2⟩ := hU c hc
   rw [hs22]
   refine Frw.same F (fun hm => ?_) u2
   rcases List.mem_cons.1 hm with rfl | hm
   ·exact objAt_there t9 u1
   ·rcases List.mem_cons.1 hm with rfl | hm
    ·exact o110.there u1
    ·exact (hxb c hm).1 hc
  ·refine objAt_fwd h6 F fun hm => ?_
   rcases List.mem_cons.1 hm with e | hm
   ·exact ne69 e
   ·rcases List.mem_cons.1 hm with e | hm
    ·exact ne61 e
    ·exact xb6 hm
  ·rw [hnd']
   exact (so34.beside f35 fun c hc hcv => (hvb c hcv).2.2 (by simpa using hc)).beside f36 fun c hc hcv => (hvb c hcv).2.1 (by simpa using hc)
  ·obtain ⟨v1, v2, v3⟩ := hvb c hc
   have F32 : Frw [m9] s1 s32 := ((f22.mono (by simp)).trans f23).trans (n32.fwd.mono (by simp))
   have v4 : s1.h.get c = none := F32.none v1 (by simpa using v2)
   exact ⟨fun hu => (hU c hu).2 v4, hk.none v4 (by simp [v2, v3])⟩
 ·rintro U i s1 s2' ⟨h9, h6, hk, x, ox, hx, hxb⟩ hf
  exact ⟨objAt_fwd h9 hf (by simp), objAt_fwd h6 hf (by simp), hk.x hf, x, ox.ext hf, hx.ext hf, hxb⟩
 ·rintro U s1 (⟨h9, h6, hk, x, ox, hx, hxb⟩ | hz) hf1 hfr1
  ·have xb9 : m9 ∉ blkOf x := fun hc => objAt_there t9 (hxb _ hc).2
   have xb6 : m6 ∉ blkOf x := fun hc => objAt_there t6 (hxb _ hc).2
   have f39 : Frw [m9] s1 (hsetS s1 m9 (I8 none .exhausted)) := hsetS_frw
   have h639 : objAt (hsetS s1 m9 (I8 none .exhausted)) m6 = some (.dfd true) := (objAt_ne ne69).trans h6
   refine ⟨h9, x, (ox.fwd f39 (by simpa using ne91.symm)).ld1 0 rfl, _, endDs_one h639, ?_⟩
   have f40 : Frw [m6] (hsetS s1 m9 (I8 none .exhausted)) (hsetS (hsetS s1 m9 (I8 none .exhausted)) m6 (.dfd false)) := hsetS_frw
   rw [List.take_length] at hx
   have fs4 : Frw [] s s4 := n2.fwd.trans f4
   refine ⟨(hx.beside f39 (notin1 xb9)).beside f40 (notin1 xb6), fun c hc => (fs4.trans f410).none (hxb c hc).2 (by simp), ?_⟩
   refine ((fs4.go hf1 fun c hc => ?_).go f39 fun c hc => ?_).go f40 fun c hc => ?_
   ·have : c = m1 := by simpa using hc
    rw [this]; exact .inr n2.gone
   ·have : c = m9 := by simpa using hc
    rw [this]; exact .inr (fs4.none g9 (by simp))
   ·have : c = m6 := by simpa using hc
    rw [this]; exact .inr (fs4.none g6 (by simp))
  ·exact hz.elim
end
end Go.Eng.S

namespace Go.Eng.S
open Go Go.Eng Go.Proofs
set_option linter.constructorNameAsVariable false
noncomputable section
variable {S : FoD} {cs : List SpC}
theorem above_inner (hT : TreeI S) {i : Int} (hi : i ∈ S.N) (hg : (S.pl i).n.org = 0) : S.above i = (S.C i).par :: S.above (S.C i).par := by
 have h := ends_at (fun x y h => (upI_in (C := S.C) (g := fun i => (S.pl i).n.org) (N := S.N) x y h).2.2.2) (upI_acy fun x hx => hT.acy x hx) hi
 have hp := (hT.all i hi hg).1
 have hu : S.upO i = some (S.C i).par := by
  unfold FoD.upO upI upC
  rw [if_pos ⟨hi, hg⟩, if_pos hp]
 have h0 : 0 < S.N.length := List.length_pos_of_mem hi
 obtain ⟨k, hk⟩ : ∃ k, S.N.length = k + 1 := ⟨S.N.length - 1, by omega⟩
 unfold FoD.above
 rw [hk] at h ⊢
 have h2 : itU S.upO (k + 1) i = none := h
 simp only [itU, hu, Option.bind_some] at h2
 rw [abN_stable hT k _ h2 (k + 1) (by omega)]
 simp only [abN]
 rw [if_pos ⟨hi, hg⟩]
theorem above_root {i : Int} (hg : ¬ (i ∈ S.N ∧ (S.pl i).n.org = 0)) : S.above i = [] := by
 unfold FoD.above
 cases S.N.length with
 | zero => rfl
 | succ k => simp only [abN]; rw [if_neg hg]
theorem above_kid (hT : TreeI S) {i j : Int} (hi : i ∈ S.N) (hj : j ∈ S.kd i) : S.above j = i :: S.above i := by
 obtain ⟨h1, h2, h3⟩ := hT.kids i hi j hj
 rw [above_inner hT h1 h2, h3]
theorem abN_len {hT : TreeI S} : ∀ (k : Nat) (i : Int), itU S.upO k i = none → (abN S k i).length < k
 | 0, i, h => by simp [itU] at h
 | k + 1, i, h => by
  simp only [abN]
  by_cases hg : i ∈ S.N ∧ (S.pl i).n.org = 0
  ·rw [if_pos hg]
   have hp := (hT.all i hg.1 hg.2).1
   have hu : S.upO i = some (S.C i).par := by
    unfold FoD.upO upI upC
    rw [if_pos hg, if_pos hp]
   simp only [itU, hu, Option.bind_some] at h
   have := abN_len (hT := hT) k _ h
   simp only [List.length_cons]; omega
  ·rw [if_neg hg]; simp
theorem above_len (hT : TreeI S) {i : Int} (hi : i ∈ S.N) : (S.above i).length < S.N.length :=
 abN_len (hT := hT) _ _ (ends_at (fun x y h => (upI_in (C := S.C) (g := fun i => (S.pl i).n.org) (N := S.N) x y h).2.2.2) (upI_acy fun x hx => hT.acy x hx) hi)
theorem above_len' (hT : TreeI S) (i : Int) : (S.above i).length ≤ S.N.length := by
 by_cases hi : i ∈ S.N
 ·exact Nat.le_of_lt (above_len hT hi)
 ·rw [above_root fun h => hi h.1]; simp
theorem up_ind (hT : TreeI S) {Q : Int → Prop} (hr : ∀ i, i ∈ S.N → (S.pl i).n.org ≠ 0 → Q i) (hs : ∀ i, i ∈ S.N → (S.pl i).n.org = 0 → (S.C i).par ∈ S.N → Q (S.C i).par → Q i) {i : Int} (hi : i ∈ S.N) : Q i := by
 have key : ∀ (n : Nat) (i : Int), i ∈ S.N → (S.above i).length = n → Q i := by
  intro n
  induction n with
  | zero =>
   intro i hi hn
   by_cases hg : (S.pl i).n.org = 0
   ·rw [above_inner hT hi hg] at hn; simp at hn
   ·exact hr i hi hg
  | succ n ih =>
   intro i hi hn
   by_cases hg : (S.pl i).n.org = 0
   ·rw [above_inner hT hi hg] at hn
    have hp := (hT.all i hi hg).1
    exact hs i hi hg hp (ih _ hp (by simpa using hn))
   ·exact hr i hi hg
 exact key _ i hi rfl
theorem above_in (hT : TreeI S) {i : Int} (hi : i ∈ S.N) : ∀ a, a ∈ S.above i → a ∈ S.N := by
 refine up_ind (Q := fun i => ∀ a, a ∈ S.above i → a ∈ S.N) hT (fun i hi hg a ha => ?_) (fun i hi hg hp ih a ha => ?_) hi
 ·rw [above_root fun h => hg h.2] at ha; simp at ha
 ·rw [above_inner hT hi hg] at ha
  rcases List.mem_cons.1 ha with rfl | ha
  ·exact hp
  ·exact ih a ha
theorem preN_up (hT : TreeI S) : ∀ (k : Nat) (l : List Int), (∀ i, i ∈ l → i ∈ S.N) → ∀ b, b ∈ preN S.kd k l → b ∈ S.N ∧ ∃ a, a ∈ l ∧ (a :: S.above a) <:+ (b :: S.above b)
 | 0, l, _, b, hb => by simp [preN] at hb
 | k + 1, l, hl, b, hb => by
  simp only [preN, List.mem_flatMap] at hb
  obtain ⟨a, ha, hb⟩ := hb
  rcases List.mem_cons.1 hb with rfl | hb
  ·exact ⟨hl b ha, b, ha, List.suffix_refl _⟩
  ·have haN := hl a ha
   obtain ⟨h1, j, hj, hs⟩ := preN_up hT k (S.kd a) (fun j hj => (hT.kids a haN j hj).1) b hb
   refine ⟨h1, a, ha, ?_⟩
   rw [above_kid hT haN hj] at hs
   exact (List.suffix_cons j _).trans hs
theorem nodup_fm {f : Int → List Int} : ∀ {l : List Int}, (∀ a, a ∈ l → (f a).Nodup) → l.Pairwise (fun a b => ∀ x, x ∈ f a → x ∈ f b → False) → (l.flatMap f).Nodup
 | [], _, _ => by simp
 | a :: r, h1, h2 => by
  obtain ⟨h3, h4⟩ := List.pairwise_cons.1 h2
  rw [List.flatMap_cons, List.nodup_append]
  refine ⟨h1 a (List.mem_cons_self ..), nodup_fm (fun b hb => h1 b (List.mem_cons_of_mem _ hb)) h4, fun x hx y hy e => ?_⟩
  subst e
  obtain ⟨b, hb, hxb⟩ := List.mem_flatMap.1 hy
  exact h3 b hb x hx hxb
theorem preN_nodup (hT : TreeI S) : ∀ (k : Nat) (l : List Int) (d : Nat), (∀ i, i ∈ l → i ∈ S.N ∧ (S.above i).length = d) → l.Nodup → (preN S.kd k l).Nodup
 | 0, l, d, _, _ => by simp [preN]
 | k + 1, l, d, hl, hnd => by
  simp only [preN]
  refine nodup_fm (fun a ha => ?_) ?_
  ·obtain ⟨haN, had⟩ := hl a ha
   refine List.nodup_cons.2 ⟨fun hm => ?_, preN_nodup hT k (S.kd a) (d + 1) (fun j hj => ⟨(hT.kids a haN j hj).1, by rw [above_kid hT haN hj]; simp [had]⟩) (hT.ndk a haN)⟩
   obtain ⟨_, j, hj, hs⟩ := preN_up hT k (S.kd a) (fun j hj => (hT.kids a haN j hj).1) a hm
   rw [above_kid hT haN hj] at hs
   have := hs.length_le
   simp at this
   omega
  ·refine (List.Pairwise.and_mem.1 hnd).imp fun {a b} h => ?_
   obtain ⟨ha, hb, hne⟩ := h
   obtain ⟨haN, had⟩ := hl a ha
   obtain ⟨hbN, hbd⟩ := hl b hb
   have key : ∀ {a x : Int}, a ∈ S.N → x ∈ a :: preN S.kd k (S.kd a) → (a :: S.above a) <:+ (x :: S.above x) := fun {a x} haN hx => by
    rcases List.mem_cons.1 hx with rfl | hx
    ·exact List.suffix_refl _
    ·obtain ⟨_, j, hj, hs⟩ := preN_up hT k (S.kd a) (fun j hj => (hT.kids a haN j hj).1) x hx
     rw [above_kid hT haN hj] at hs
     exact (List.suffix_cons j _).trans hs
   intro x hx hx'
   have s1 := key haN hx
   have s2 := key hbN hx'
   have := List.suffix_of_suffix_length_le s1 s2 (by simp [had, hbd])
   have e := this.eq_of_length (by simp [had, hbd])
   exact hne (List.cons.inj e).1
theorem preN_mono : ∀ (k : Nat) (l : List Int) (b : Int), b ∈ preN S.kd k l → b ∈ preN S.kd (k + 1) l
 | 0, l, b, h => by simp [preN] at h
 | k + 1, l, b, h => by
  simp only [preN, List.mem_flatMap] at h
  obtain ⟨a, ha, hb⟩ := h
  rw [show preN S.kd (k + 1 + 1) l = l.flatMap fun i => i :: preN S.kd (k + 1) (S.kd i) from rfl, List.mem_flatMap]
  refine ⟨a, ha, ?_⟩
  rcases List.mem_cons.1 hb with rfl | hb
  ·exact List.mem_cons_self ..
  ·exact List.mem_cons_of_mem _ (preN_mono k _ b hb)
theorem preN_kid : ∀ (k : Nat) (l : List Int) (p j : Int), p ∈ preN S.kd k l → j ∈ S.kd p → j ∈ preN S.kd (k + 1) l
 | 0, l, p, j, h, _ => by simp [preN] at h
 | k + 1, l, p, j, h, hj => by
  simp only [preN, List.mem_flatMap] at h
  obtain ⟨a, ha, hb⟩ := h
  rw [show preN S.kd (k + 1 + 1) l = l.flatMap fun i => i :: preN S.kd (k + 1) (S.kd i) from rfl, List.mem_flatMap]
  refine ⟨a, ha, List.mem_cons_of_mem _ ?_⟩
  rcases List.mem_cons.1 hb with rfl | hb
  ·simp only [preN, List.mem_flatMap]
   exact ⟨j, hj, List.mem_cons_self ..⟩
  ·exact preN_kid k _ p j hb hj
theorem preN_le {k m : Nat} {l : List Int} {b : Int} (h : b ∈ preN S.kd k l) (hm : k ≤ m) : b ∈ preN S.kd m l := by
 induction hm with
 | refl => exact h
 | step _ ih => exact preN_mono _ _ _ ih
theorem Srt.nodup {T : Int → Tv} {l : List Int} (h : Srt T l) : l.Nodup := by
 refine List.Pairwise.imp (fun {a b} hab => ?_) h
 rintro rfl
 unfold ltT at hab
 omega
theorem order_perm (hS : ForS cs S) (hnd : S.N.Nodup) : S.order.Perm S.N := by
 have hT := hS.kids
 have hr : ∀ i, i ∈ S.rl → i ∈ S.N ∧ (S.above i).length = 0 := fun i hi => by
  obtain ⟨h1, h2⟩ := (hS.rts i).1 hi
  exact ⟨h1, by rw [above_root fun h => h2 h.2]; rfl⟩
 have h1 : S.order.Nodup := preN_nodup hT _ _ 0 hr hS.rsrt.nodup
 refine (List.perm_ext_iff_of_nodup h1 hnd).2 fun b => ⟨fun hb => (preN_up hT _ _ (fun i hi => (hr i hi).1) b hb).1, fun hb => ?_⟩
 have key : b ∈ preN S.kd ((S.above b).length + 1) S.rl := by
  refine up_ind (Q := fun b => b ∈ preN S.kd ((S.above b).length + 1) S.rl) hT (fun i hi hg => ?_) (fun i hi hg hp ih => ?_) hb
  ·rw [above_root fun h => hg h.2]
   simp only [List.length_nil, preN, List.mem_flatMap]
   exact ⟨i, (hS.rts i).2 ⟨hi, hg⟩, List.mem_cons_self ..⟩
  ·rw [above_inner hT hi hg]
   exact preN_kid _ _ _ i ih (hT.all i hi hg).2
 exact preN_le key (above_len hT hb)
theorem depth_ok (hS : ForS cs S) (hl : S.N.length ≤ 1000) {i : Int} (hi : i ∈ S.N) : (S.pl i).n.depth = ((S.above i).length : Nat) := by
 have hT := hS.kids
 have e : ∀ i, i ∈ S.N → (S.pl i).n.depth = (tvOf S.C (orgC S.C S.N) S.N i).depth := fun i hi => by rw [← hS.tv i hi]; rfl
 have hp0 : ∀ i, i ∈ S.N → orgC S.C S.N i = 0 → (S.C i).par ∈ S.N := fun i hi hg => (hT.all i hi (by rw [hS.org i hi]; exact hg)).1
 have hacy : ∀ x, Ring (upC S.C S.N) x → ∃ y, Reach (upC S.C S.N) x y ∧ orgC S.C S.N y ≠ 0 := fun x hx => by
  obtain ⟨y, y1, y2⟩ := hT.acy x hx
  have hy : y ∈ S.N := by
   have hxN : x ∈ S.N := by
    obtain ⟨z, hz, hr⟩ := Ring.iff.1 hx
    exact closed_reach (U := upC S.C S.N) (M := fun a => a ∈ S.N) (fun a b _ h => upC_in a b h) (upC_in x z hz) hr
   exact closed_reach (U := upC S.C S.N) (M := fun a => a ∈ S.N) (fun a b _ h => upC_in a b h) hxN y1
  exact ⟨y, y1, by rw [← hS.org y hy]; exact y2⟩
 refine up_ind (Q := fun i => (S.pl i).n.depth = ((S.above i).length : Nat)) hT (fun i hi hg => ?_) (fun i hi hg hp ih => ?_) hi
 ·rw [e i hi, above_root fun h => hg h.2, tvOf_root (by rw [← hS.org i hi]; exact hg)]; rfl
 ·rw [e i hi, tvOf_step hp0 hacy hi (by rw [← hS.org i hi]; exact hg), above_inner hT hi hg]
  show IntKind.wrap .i64 ((tvOf S.C (orgC S.C S.N) S.N (S.C i).par).depth + 1) = _
  rw [← e _ hp, ih]
  have := above_len hT hp
  rw [wrap_i64 (by omega) (by omega)]
  simp
end
end Go.Eng.S

namespace Go.Eng.S
open Go Go.Eng Go.Proofs
set_option linter.constructorNameAsVariable false
noncomputable section
attribute [local irreducible] bsel
end
end Go.Eng.S

namespace Go.Eng.S
open Go Go.Eng Go.Proofs
set_option linter.constructorNameAsVariable false
noncomputable section
attribute [local irreducible] bsel
open Classical
theorem ForS.facts {l : List SpX} {S : FoD} {s0 s : St} {f : Nat} {B : Int → Nat} {o : Nat → Tg} (hb : BuildOk (l.map SpX.c)) (hF : Fo s0 s f B o S) (hS : ForS (l.map SpX.c) S) :
  S.N.length = l.length ∧ S.N.length ≤ 1000 ∧ S.order.length = l.length ∧ S.rl.length ≤ 1000 ∧ S.il.length ≤ 1000 ∧ (∀ i, i ∈ S.N → (S.C i).Small) := by
 obtain ⟨h1, h2, h3⟩ := hb.facts
 have e : S.N.length = l.length := by rw [hS.N]; simp
 have ho := order_perm hS hF.nd
 have hr : S.rl.length ≤ S.N.length := nodup_len hS.rsrt.nodup fun x hx => ((hS.rts x).1 hx).1
 refine ⟨e, by omega, by rw [ho.length_eq, e], by omega, by rw [hS.ilp.length_eq]; omega, fun i hi => ?_⟩
 rw [hS.N, List.mem_map] at hi
 obtain ⟨c, hc, rfl⟩ := hi
 rw [hS.C c hc]
 obtain ⟨_, hchk⟩ := fitB_all hb.1
 have := chk_small (hchk c hc)
 exact ⟨by omega, by omega, by omega⟩
end
end Go.Eng.S

namespace Go.Eng.S
open Go Go.Eng Go.Proofs
set_option linter.constructorNameAsVariable false
noncomputable section
def mx2 (a b : Int) : Int := if b > a then b else a
def mn2 (a b : Int) : Int := if b < a then b else a
def foldN (g : Int → Int → Int) (f : Int → Int) : List Int → Int
 | [] => 0
 | [a] => f a
 | a :: b :: r => g (f a) (foldN g f (b :: r))
theorem foldN_snoc {g : Int → Int → Int} (hg : ∀ a b c, g a (g b c) = g (g a b) c) {f : Int → Int} {x : Int} : ∀ {a : Int} {r : List Int}, foldN g f ((a :: r) ++ [x]) = g (foldN g f (a :: r)) (f x)
 | a, [] => rfl
 | a, b :: r => by
  have := foldN_snoc hg (f := f) (x := x) (a := b) (r := r)
  show g (f a) (foldN g f ((b :: r) ++ [x])) = g (g (f a) (foldN g f (b :: r))) (f x)
  rw [this, hg]
theorem mx2_assoc (a b c : Int) : mx2 a (mx2 b c) = mx2 (mx2 a b) c := by unfold mx2; repeat' split <;> omega
theorem mn2_assoc (a b c : Int) : mn2 a (mn2 b c) = mn2 (mn2 a b) c := by unfold mn2; repeat' split <;> omega
variable {cs : List SpC} {S : FoD}
theorem ForS.acy (hS : ForS cs S) : (∀ i, i ∈ S.N → orgC S.C S.N i = 0 → (S.C i).par ∈ S.N) ∧ ∀ x, Ring (upC S.C S.N) x → ∃ y, Reach (upC S.C S.N) x y ∧ orgC S.C S.N y ≠ 0 := by
 refine ⟨fun i hi hg => (hS.kids.all i hi (by rw [hS.org i hi]; exact hg)).1, fun x hx => ?_⟩
 obtain ⟨y, y1, y2⟩ := hS.kids.acy x hx
 have hy : y ∈ S.N := by
  have hxN : x ∈ S.N := by
   obtain ⟨z, hz, hr⟩ := Ring.iff.1 hx
   exact closed_reach (U := upC S.C S.N) (M := fun a => a ∈ S.N) (fun a b _ h => upC_in a b h) (upC_in x z hz) hr
  exact closed_reach (U := upC S.C S.N) (M := fun a => a ∈ S.N) (fun a b _ h => upC_in a b h) hxN y1
 exact ⟨y, y1, by rw [← hS.org y hy]; exact y2⟩
theorem node_root (hS : ForS cs S) {i : Int} (hi : i ∈ S.N) (hg : (S.pl i).n.org ≠ 0) : (S.pl i).n.tv = rootT S.C i := by
 rw [hS.tv i hi, tvOf_root (by rw [← hS.org i hi]; exact hg)]
theorem node_step (hS : ForS cs S) {i : Int} (hi : i ∈ S.N) (hg : (S.pl i).n.org = 0) : (S.pl i).n.tv = stepT (S.C i) (S.pl (S.C i).par).n.tv := by
 obtain ⟨h1, h2⟩ := hS.acy
 rw [hS.tv i hi, tvOf_step h1 h2 hi (by rw [← hS.org i hi]; exact hg), hS.tv _ (hS.kids.all i hi hg).1]
theorem tree_last (hS : ForS cs S) {i : Int} (hi : i ∈ S.N) (hg : (S.pl i).n.org = 0) : (S.above i).getLast? = some (S.pl i).n.tree ∧ (S.pl i).n.tree = (S.pl (S.C i).par).n.tree := by
 have hst : ∀ i, i ∈ S.N → (S.pl i).n.org = 0 → (S.pl i).n.tree = (S.pl (S.C i).par).n.tree := fun i hi hg => congrArg Tv.tree (node_step hS hi hg)
 refine ⟨?_, hst i hi hg⟩
 have key : (S.pl i).n.org = 0 → (S.above i).getLast? = some (S.pl i).n.tree := by
  refine up_ind (Q := fun i => (S.pl i).n.org = 0 → (S.above i).getLast? = some (S.pl i).n.tree) hS.kids (fun i hi hg h => absurd h hg) (fun i hi hg hp ih _ => ?_) hi
  rw [above_inner hS.kids hi hg, hst i hi hg]
  by_cases h2 : (S.pl (S.C i).par).n.org = 0
  ·have := ih h2
   cases hA : S.above (S.C i).par with
   | nil => rw [hA] at this; simp at this
   | cons a r => rw [hA] at this; rw [List.getLast?_cons_cons]; exact this
  ·rw [above_root fun h => h2 h.2]
   have : (S.pl (S.C i).par).n.tree = (S.C i).par := congrArg Tv.tree (node_root hS hp h2)
   rw [this]; rfl
 exact key hg
def cFrom (S : FoD) (i : Int) : Int := foldN mx2 (fun a => (S.C a).t0) (i :: S.above i)
def cTo (S : FoD) (i : Int) : Int := foldN mn2 (fun a => (S.C a).t1) (i :: S.above i)
theorem clip_step {a b PF PT cF cT : Int} (h0 : a ≤ b) (hp : (cF < cT ∧ PF = cF ∧ PT = cT) ∨ (cT ≤ cF ∧ PF = PT)) :
  (clipI a b PF PT).1 ≤ (clipI a b PF PT).2 ∧ (mx2 a cF < mn2 b cT → (clipI a b PF PT).1 = mx2 a cF ∧ (clipI a b PF PT).2 = mn2 b cT) ∧ (mn2 b cT ≤ mx2 a cF → (clipI a b PF PT).1 = (clipI a b PF PT).2) ∧ PF ≤ (clipI a b PF PT).1 ∧ (clipI a b PF PT).2 ≤ PT := by
 rcases hp with ⟨p1, rfl, rfl⟩ | ⟨p1, rfl⟩
 ·have hc : ¬ PT ≤ PF := by omega
  have m1 : mx2 a PF = if PF > a then PF else a := rfl
  have m2 : mn2 b PT = if PT < b then PT else b := rfl
  have i1 : ∀ v, (v ≤ PF → intoI v PF PT = PF) ∧ (PF ≤ v ∧ v ≤ PT → intoI v PF PT = v) ∧ (PT ≤ v → intoI v PF PT = PT) := fun v => by
   unfold intoI
   refine ⟨fun h => ?_, fun h => ?_, fun h => ?_⟩ <;> (repeat' split) <;> omega
  have ha := i1 a
  have hb := i1 b
  unfold clipI
  rw [if_neg hc]
  by_cases hab : b ≤ a
  ·rw [if_pos hab]
   simp only
   rcases Int.le_total a PF with q | q
   ·rw [ha.1 q]
    refine ⟨by omega, fun h => ?_, fun _ => trivial, by omega, by omega⟩
    rw [m1, m2] at h
    split at h <;> split at h <;> omega
   ·rcases Int.le_total a PT with q2 | q2
    ·rw [ha.2.1 ⟨q, q2⟩]
     refine ⟨by omega, fun h => ?_, fun _ => trivial, by omega, by omega⟩
     rw [m1, m2] at h
     split at h <;> split at h <;> omega
    ·rw [ha.2.2 q2]
     refine ⟨by omega, fun h => ?_, fun _ => trivial, by omega, by omega⟩
     rw [m1, m2] at h
     split at h <;> split at h <;> omega
  ·rw [if_neg hab]
   simp only
   rcases Int.le_total a PF with q | q
   ·rw [ha.1 q]
    rcases Int.le_total b PF with r | r
    ·rw [hb.1 r]
     refine ⟨by omega, fun h => ?_, fun _ => rfl, by omega, by omega⟩
     rw [m1, m2] at h
     split at h <;> split at h <;> omega
    ·rcases Int.le_total b PT with r2 | r2
     ·rw [hb.2.1 ⟨r, r2⟩, m1, m2]
      refine ⟨by omega, fun h => ?_, fun h => ?_, by omega, by omega⟩
      ·constructor <;> (split <;> omega)
      ·split at h <;> split at h <;> omega
     ·rw [hb.2.2 r2, m1, m2]
      refine ⟨by omega, fun h => ?_, fun h => ?_, by omega, by omega⟩
      ·constructor <;> (split <;> omega)
      ·split at h <;> split at h <;> omega
   ·rcases Int.le_total a PT with q2 | q2
    ·rw [ha.2.1 ⟨q, q2⟩]
     rcases Int.le_total b PT with r2 | r2
     ·rw [hb.2.1 ⟨by omega, r2⟩, m1, m2]
      refine ⟨by omega, fun h => ?_, fun h => ?_, by omega, by omega⟩
      ·constructor <;> (split <;> omega)
      ·split at h <;> split at h <;> omega
     ·rw [hb.2.2 r2, m1, m2]
      refine ⟨by omega, fun h => ?_, fun h => ?_, by omega, by omega⟩
      ·constructor <;> (split <;> omega)
      ·split at h <;> split at h <;> omega
    ·rw [ha.2.2 q2, hb.2.2 (by omega)]
     refine ⟨by omega, fun h => ?_, fun _ => rfl, by omega, by omega⟩
     rw [m1, m2] at h
     split at h <;> split at h <;> omega
 ·unfold clipI
  rw [if_pos (Int.le_refl _)]
  refine ⟨Int.le_refl _, fun h => ?_, fun _ => rfl, Int.le_refl _, Int.le_refl _⟩
  unfold mx2 mn2 at h
  split at h <;> split at h <;> omega
theorem clip_in (hS : ForS cs S) (ht : ∀ i, i ∈ S.N → (S.C i).t0 ≤ (S.C i).t1) {i : Int} (hi : i ∈ S.N) :
  (S.pl i).n.fr ≤ (S.pl i).n.till ∧ (cFrom S i < cTo S i → (S.pl i).n.fr = cFrom S i ∧ (S.pl i).n.till = cTo S i) ∧ (cTo S i ≤ cFrom S i → (S.pl i).n.fr = (S.pl i).n.till) ∧
   ((S.pl i).n.org = 0 → (S.pl (S.C i).par).n.fr ≤ (S.pl i).n.fr ∧ (S.pl i).n.till ≤ (S.pl (S.C i).par).n.till) := by
 refine up_ind (Q := fun i => (S.pl i).n.fr ≤ (S.pl i).n.till ∧ (cFrom S i < cTo S i → (S.pl i).n.fr = cFrom S i ∧ (S.pl i).n.till = cTo S i) ∧ (cTo S i ≤ cFrom S i → (S.pl i).n.fr = (S.pl i).n.till) ∧
   ((S.pl i).n.org = 0 → (S.pl (S.C i).par).n.fr ≤ (S.pl i).n.fr ∧ (S.pl i).n.till ≤ (S.pl (S.C i).par).n.till)) hS.kids (fun i hi hg => ?_) (fun i hi hg hp ih => ?_) hi
 ·have e := node_root hS hi hg
  have e1 : (S.pl i).n.fr = (S.C i).t0 := congrArg Tv.fr e
  have e2 : (S.pl i).n.till = (S.C i).t1 := congrArg Tv.till e
  have ea : S.above i = [] := above_root fun h => hg h.2
  have e3 : cFrom S i = (S.C i).t0 := by unfold cFrom; rw [ea]; rfl
  have e4 : cTo S i = (S.C i).t1 := by unfold cTo; rw [ea]; rfl
  have := ht i hi
  rw [e1, e2, e3, e4]
  exact ⟨this, fun _ => ⟨rfl, rfl⟩, fun h => by omega, fun h => absurd h hg⟩
 ·have e := node_step hS hi hg
  have e1 : (S.pl i).n.fr = (clipI (S.C i).t0 (S.C i).t1 (S.pl (S.C i).par).n.fr (S.pl (S.C i).par).n.till).1 := congrArg Tv.fr e
  have e2 : (S.pl i).n.till = (clipI (S.C i).t0 (S.C i).t1 (S.pl (S.C i).par).n.fr (S.pl (S.C i).par).n.till).2 := congrArg Tv.till e
  have ea := above_inner hS.kids hi hg
  have e3 : cFrom S i = mx2 (S.C i).t0 (cFrom S (S.C i).par) := by unfold cFrom; rw [ea]; rfl
  have e4 : cTo S i = mn2 (S.C i).t1 (cTo S (S.C i).par) := by unfold cTo; rw [ea]; rfl
  have h0 := ht i hi
  obtain ⟨k1, k2, k3, _⟩ := ih
  rw [e1, e2, e3, e4]
  generalize (S.pl (S.C i).par).n.fr = PF at *
  generalize (S.pl (S.C i).par).n.till = PT at *
  generalize cFrom S (S.C i).par = cF at *
  generalize cTo S (S.C i).par = cT at *
  generalize (S.C i).t0 = a at *
  generalize (S.C i).t1 = b at *
  clear e e1 e2 e3 e4 ea hi hg hp
  have hP : (cF < cT ∧ PF = cF ∧ PT = cT) ∨ (cT ≤ cF ∧ PF = PT) := by
   by_cases h : cF < cT
   ·exact .inl ⟨h, k2 h⟩
   ·exact .inr ⟨by omega, k3 (by omega)⟩
  obtain ⟨r1, r2, r3, r4, r5⟩ := clip_step h0 hP
  exact ⟨r1, r2, r3, fun _ => ⟨r4, r5⟩⟩
def Adj (R : Int → Int → Prop) : List Int → Prop
 | [] => True
 | [_] => True
 | a :: b :: r => R a b ∧ Adj R (b :: r)
theorem Adj.append {R : Int → Int → Prop} : ∀ {l m : List Int}, Adj R l → Adj R m → (∀ x y, l.getLast? = some x → m.head? = some y → R x y) → Adj R (l ++ m)
 | [], m, _, h2, _ => h2
 | [a], m, _, h2, h => by
  cases m with
  | nil => trivial
  | cons b r => exact ⟨h a b rfl rfl, h2⟩
 | a :: b :: r, m, h1, h2, h => ⟨h1.1, Adj.append (l := b :: r) h1.2 h2 fun x y hx hy => h x y (by rw [List.getLast?_cons_cons]; exact hx) hy⟩
theorem Adj.at {R : Int → Int → Prop} : ∀ {l : List Int}, Adj R l → ∀ (k : Nat) (h : k + 1 < l.length), R l[k] l[k + 1]
 | [], _, k, h => by simp at h
 | [a], _, k, h => by simp at h
 | a :: b :: r, hA, 0, _ => hA.1
 | a :: b :: r, hA, k + 1, h => Adj.at (l := b :: r) hA.2 k (by simpa using h)
def Nx (S : FoD) (a b : Int) : Prop := S.above b <:+ (a :: S.above a)
theorem preN_head {k : Nat} {l : List Int} {y : Int} (h : (preN S.kd k l).head? = some y) : ∃ r, l = y :: r := by
 cases k with
 | zero => simp [preN] at h
 | succ k =>
  cases l with
  | nil => simp [preN] at h
  | cons a r =>
   simp only [preN, List.flatMap_cons, List.cons_append, List.head?_cons, Option.some.injEq] at h
   exact ⟨r, by rw [h]⟩
theorem preN_adj (hT : TreeI S) : ∀ (k : Nat) (l : List Int) (A : List Int), (∀ i, i ∈ l → i ∈ S.N ∧ S.above i = A) → Adj (Nx S) (preN S.kd k l)
 | 0, l, A, _ => trivial
 | k + 1, l, A, hl => by
  have blk : ∀ a, a ∈ l → Adj (Nx S) (a :: preN S.kd k (S.kd a)) := fun a ha => by
   obtain ⟨haN, haA⟩ := hl a ha
   have h1 := preN_adj hT k (S.kd a) (a :: S.above a) fun j hj => ⟨(hT.kids a haN j hj).1, above_kid hT haN hj⟩
   refine Adj.append (l := [a]) trivial h1 fun x y hx hy => ?_
   have : x = a := by simpa using hx.symm
   subst this
   obtain ⟨r, hr⟩ := preN_head hy
   have hyk : y ∈ S.kd x := by rw [hr]; exact List.mem_cons_self ..
   unfold Nx
   rw [above_kid hT haN hyk]
   exact List.suffix_refl _
  have last : ∀ a x, a ∈ l → (a :: preN S.kd k (S.kd a)).getLast? = some x → (a :: S.above a) <:+ (x :: S.above x) := fun a x ha hx => by
   obtain ⟨haN, _⟩ := hl a ha
   have hm := List.mem_of_getLast? hx
   rcases List.mem_cons.1 hm with rfl | hm
   ·exact List.suffix_refl _
   ·obtain ⟨_, j, hj, hs⟩ := preN_up hT k (S.kd a) (fun j hj => (hT.kids a haN j hj).1) x hm
    rw [above_kid hT haN hj] at hs
    exact (List.suffix_cons j _).trans hs
  simp only [preN]
  clear hT
  induction l with
  | nil => trivial
  | cons a r ih =>
   rw [List.flatMap_cons]
   refine Adj.append (blk a (List.mem_cons_self ..)) (ih (fun i hi => hl i (List.mem_cons_of_mem _ hi)) (fun b hb => blk b (List.mem_cons_of_mem _ hb)) fun b x hb => last b x (List.mem_cons_of_mem _ hb)) fun x y hx hy => ?_
   obtain ⟨q, hq⟩ : ∃ q, r = y :: q := preN_head (k := k + 1) (S := S) hy
   have h1 := last a x (List.mem_cons_self ..) hx
   have ea := (hl a (List.mem_cons_self ..)).2
   have ey := (hl y (by rw [hq]; simp)).2
   unfold Nx
   rw [ey, ← ea]
   exact (List.suffix_cons a _).trans h1
theorem kids_count (hS : ForS cs S) (hnd : S.N.Nodup) : S.rl.length + (S.order.flatMap S.kd).length = S.order.length := by
 have hT := hS.kids
 have hop := order_perm hS hnd
 have hond : S.order.Nodup := hop.nodup_iff.2 hnd
 have hoN : ∀ i, i ∈ S.order ↔ i ∈ S.N := fun i => hop.mem_iff
 rw [← List.length_append]
 refine List.Perm.length_eq ((List.perm_ext_iff_of_nodup ?_ hond).2 fun x => ?_)
 ·rw [List.nodup_append]
  refine ⟨hS.rsrt.nodup, nodup_fm (fun a ha => hT.ndk a ((hoN a).1 ha)) ((List.Pairwise.and_mem.1 hond).imp fun {a b} h => ?_), fun x hx y hy e => ?_⟩
  ·obtain ⟨ha, hb, hne⟩ := h
   intro x hx hy
   exact hne (by rw [← (hT.kids a ((hoN a).1 ha) x hx).2.2, ← (hT.kids b ((hoN b).1 hb) x hy).2.2])
  ·subst e
   obtain ⟨a, ha, hxa⟩ := List.mem_flatMap.1 hy
   exact ((hS.rts x).1 hx).2 (hT.kids a ((hoN a).1 ha) x hxa).2.1
 ·rw [List.mem_append, List.mem_flatMap, hoN]
  constructor
  ·rintro (h | ⟨a, ha, hx⟩)
   ·exact ((hS.rts x).1 h).1
   ·exact (hT.kids a ((hoN a).1 ha) x hx).1
  ·intro hx
   by_cases hg : (S.pl x).n.org = 0
   ·obtain ⟨h1, h2⟩ := hT.all x hx hg
    exact .inr ⟨_, (hoN _).2 h1, h2⟩
   ·exact .inl ((hS.rts x).2 ⟨hx, hg⟩)
end
end Go.Eng.S

namespace Go.Eng.S
open Go Go.Eng Go.Proofs
set_option linter.constructorNameAsVariable false
noncomputable section
attribute [local irreducible] bsel
theorem ordered_ok {s0 s : St} {f : Nat} {B : Int → Nat} {o : Nat → Tg} {S : FoD} {cs : List SpC} (h : Fo s0 s f B o S) (hS : ForS cs S) {x : AV} {l : List Int} (hx : Sl linkE s x l) (hl : ∀ i, i ∈ l → i ∈ S.N) (hs : Srt (tvOf S.C (orgC S.C S.N) S.N) l) (hsz : l.length ≤ 1000000) :
  CallsD P F.spoorlaw10_ordered [.ptr f 0, x] s fun v s' => v = .bool true ∧ Frw [] s s' := by
 refine CallsD.fr fun hfr => vc.spoorlaw10_ordered_ok ?_
 refine ⟨fun n s' m => ∃ k : Nat, n = (k : Int) + 1 ∧ m = l.length - k ∧ Frw [] s s' ∧ Fr s', ⟨_, 0, rfl, rfl, .refl _ _, hfr⟩, ?_⟩
 rintro _ s4 _ ⟨k, rfl, rfl, hf, hfr4⟩
 refine (hx.ext hf).slen (bsel_of (fun c => ?_) fun _ => ⟨rfl, hf⟩)
 have c : k + 1 < l.length := by
  have : (k : Int) + 1 < ((l.length : Nat) : Int) := by simpa using c
  omega
 have e0 : IntKind.wrap .i64 ((k : Int) + 1 - 1) = (k : Int) := by rw [wrap_i64 (by omega) (by omega)]; omega
 rw [e0]
 have hF := h.ext hf hfr4
 have c0 : k < l.length := by omega
 have hab : ltT (tvOf S.C (orgC S.C S.N) S.N) l[k] l[k + 1] := List.pairwise_iff_getElem.1 hs k (k + 1) c0 c (by omega)
 have haN := hl _ (List.getElem_mem c0)
 have hbN := hl _ (List.getElem_mem c)
 refine (hx.ext hf).ixs rfl rfl c0 fun b1 o1 hr1 => ⟨_, hr1.ld1 0 rfl, (CallsD.of fun _ => Node_ok hF l[k]).mono ?_⟩
 rintro _ s11 ⟨⟨rfl, f11⟩, fr11⟩
 simp only [if_pos haN, decide_eq_true haN]
 refine ⟨_, _, _, _, _, _, _, true, rfl, fun m20 s21 n21 => ?_⟩
 obtain ⟨s22, w22, o22, f22, fr22⟩ := n21.put (S.pl l[k]).n.cells rfl rfl
 have F22 := f11.trans f22
 refine ⟨s22, w22, ((hx.ext hf).ext F22).ixs rfl (show (k : Int) + 1 = ((k + 1 : Nat) : Int) by omega) c fun b2 o2 hr2 => ⟨_, hr2.ld1 0 rfl, (CallsD.of fun _ => Node_ok (hF.ext F22 fr22) l[k + 1]).mono ?_⟩⟩
 rintro _ s27 ⟨⟨rfl, f27⟩, fr27⟩
 simp only [if_pos hbN, decide_eq_true hbN]
 refine ⟨_, _, _, _, _, _, _, true, rfl, fun m36 s37 n37 => ?_⟩
 obtain ⟨s38, w38, o38, f38, fr38⟩ := n37.put (S.pl l[k + 1]).n.cells rfl rfl
 have F38 := f27.trans f38
 have o22' := o22.ext F38
 have ta : (S.pl l[k]).n.fr = (tvOf S.C (orgC S.C S.N) S.N l[k]).fr := by rw [← hS.tv _ haN]; rfl
 have tb : (S.pl l[k + 1]).n.fr = (tvOf S.C (orgC S.C S.N) S.N l[k + 1]).fr := by rw [← hS.tv _ hbN]; rfl
 have ia := hS.id _ haN
 have ib := hS.id _ hbN
 unfold ltT at hab
 rw [← ta, ← tb] at hab
 have fin : ∃ m' : Nat, m' < l.length - k ∧ ∃ k' : Nat, IntKind.wrap .i64 ((k : Int) + 1 + 1) = (k' : Int) + 1 ∧ m' = l.length - k' ∧ Frw [] s s38 ∧ Fr s38 := ⟨_, by omega, k + 1, by rw [wrap_i64 (by omega) (by omega)]; omega, rfl, (hf.trans F22).trans F38, fr38⟩
 refine ⟨s38, w38, _, o22'.ld1 5 rfl, _, o38.ld1 5 rfl, bsel_of (fun e => ?_) fun e => ⟨_, o22'.ld1 5 rfl, _, o38.ld1 5 rfl, bsel_of (fun e2 => ⟨_, o22'.ld1 0 rfl, _, o38.ld1 0 rfl, bsel_of (fun e3 => ?_) fun _ => fin⟩) fun _ => fin⟩⟩
 ·have e : (S.pl l[k]).n.fr > (S.pl l[k + 1]).n.fr := by simpa using e
  omega
 ·have e2 : (S.pl l[k]).n.fr = (S.pl l[k + 1]).n.fr := by simpa using e2
  have e3 : (S.pl l[k]).n.id ≥ (S.pl l[k + 1]).n.id := by simpa using e3
  rw [ia, ib] at e3
  omega
def pathN (S : FoD) (k : Nat) : List Nd := match k with | 0 => [] | k + 1 => ((S.order.getD k 0) :: S.above (S.order.getD k 0)).reverse.map fun i => (S.pl i).n
set_option maxHeartbeats 4000000 in
set_option maxRecDepth 10000 in
theorem fits_law {s0 s : St} {f : Nat} {B : Int → Nat} {o : Nat → Tg} {S : FoD} {cs : List SpC} (h : Fo s0 s f B o S) (hS : ForS cs S) (hN : S.N.length ≤ 1000) {x : AV} (hx : Sl nodeE s x (S.order.map fun i => (S.pl i).n)) :
  CallsD P F.spoorlaw10_fits [.ptr f 0, x] s fun v s' => v = .bool true ∧ Frw [] s s' := by
 have hT := hS.kids
 have hop := order_perm hS h.nd
 have hcount := kids_count hS h.nd
 have hrl : ∀ i, i ∈ S.rl → i ∈ S.N := fun i hi => ((hS.rts i).1 hi).1
 have hrlen : S.rl.length ≤ S.order.length := by omega
 have holen : S.order.length ≤ 1000 := by rw [hop.length_eq]; exact hN
 have hadj : Adj (Nx S) S.order := preN_adj hT _ _ [] fun i hi => ⟨hrl i hi, above_root fun h => ((hS.rts i).1 hi).2 h.2⟩
 refine CallsD.fr fun hfr => vc.spoorlaw10_fits_ok ((CallsD.of fun _ => Roots_ok h hT.hid hrl (by omega)).mono ?_)
 rintro y s2 ⟨⟨⟨hy, _⟩, f2⟩, fr2⟩
 have hF2 := h.ext f2 fr2
 refine ⟨_, rfl, hy.slen ?_⟩
 refine ⟨fun v n k' s' m => ∃ k : Nat, k' = k ∧ m = S.order.length - k ∧ k ≤ S.order.length ∧ n = ((S.rl.length + ((S.order.take k).flatMap S.kd).length : Nat) : Int) ∧ So nodeE s' v (pathN S k) ∧ (pathN S k = [] → v = .nilslice) ∧ Gone s2 v ∧ Frw [] s2 s' ∧ Fr s',
  ⟨_, 0, rfl, rfl, by omega, by simp, .nil _ _, fun _ => rfl, .nil _, .refl _ _, fr2⟩, ?_⟩
 rintro v n _ s10 _ ⟨k, rfl, rfl, hk, rfl, hso, hnil, hgv, hf, hfr10⟩
 have hx2 := hx.ext f2
 refine (hx2.ext hf).slen (bsel_of (fun c => ?_) fun c => ?_)
 rotate_left
 ·have c : ¬ k < S.order.length := by simpa using c
  have c : k = S.order.length := by omega
  subst c
  refine (hx2.ext hf).slen ⟨?_, f2.trans hf⟩
  rw [List.take_length, hcount]
  simp
 have c : k < S.order.length := by simpa using c
 have ck : k < (S.order.map fun i => (S.pl i).n).length := by simpa using c
 have ei : (S.order.map fun i => (S.pl i).n)[k] = (S.pl S.order[k]).n := by simp
 have hiN : S.order[k] ∈ S.N := hop.mem_iff.1 (List.getElem_mem c)
 have hp1 : pathN S (k + 1) = (S.order[k] :: S.above S.order[k]).reverse.map fun i => (S.pl i).n := by
  show ((S.order.getD k 0) :: S.above (S.order.getD k 0)).reverse.map (fun i => (S.pl i).n) = _
  rw [getD_lt c]
 have hcut : (S.above S.order[k]).length ≤ (pathN S k).length ∧ (pathN S k).take (S.above S.order[k]).length = (S.above S.order[k]).reverse.map fun i => (S.pl i).n := by
  cases k with
  | zero =>
   have e0 : S.above S.order[0] = [] := by
    obtain ⟨r, hr⟩ : ∃ r, S.rl = S.order[0] :: r := preN_head (k := S.N.length) (l := S.rl) (S := S) (by
     show S.order.head? = some S.order[0]
     rw [List.head?_eq_getElem?, List.getElem?_eq_getElem c])
    exact above_root fun hh => ((hS.rts S.order[0]).1 (by rw [hr]; exact List.mem_cons_self ..)).2 hh.2
   rw [e0]
   simp
  | succ k =>
   have hn : Nx S S.order[k] S.order[k + 1] := hadj.at k c
   obtain ⟨t, ht⟩ := hn
   have e1 : pathN S (k + 1) = (S.order[k] :: S.above S.order[k]).reverse.map fun i => (S.pl i).n := by
    show ((S.order.getD k 0) :: S.above (S.order.getD k 0)).reverse.map (fun i => (S.pl i).n) = _
    rw [getD_lt (by omega)]
   rw [e1, ← ht]
   constructor
   ·simp
   ·rw [List.reverse_append, List.map_append, List.take_left']
    simp
 have hal := above_len hT hiN
 have hdep := depth_ok hS hN hiN
 have hpar : (S.pl S.order[k]).n.org = 0 → (S.pl S.order[k]).n.par = (S.C S.order[k]).par := fun hg => by rw [hS.par _ hiN, if_pos hg]
 have hkid : ((S.order.take (k + 1)).flatMap S.kd).length = ((S.order.take k).flatMap S.kd).length + (S.kd S.order[k]).length := by
  rw [List.take_succ_eq_append_getElem c, List.flatMap_append, List.length_append]
  simp only [List.flatMap_cons, List.flatMap_nil, List.append_nil]
 have hkle : ((S.order.take (k + 1)).flatMap S.kd).length ≤ (S.order.flatMap S.kd).length := by
  have e : S.order.flatMap S.kd = (S.order.take (k + 1)).flatMap S.kd ++ (S.order.drop (k + 1)).flatMap S.kd := by rw [← List.flatMap_append, List.take_append_drop]
  rw [e, List.length_append]; omega
 have hid := hS.id _ hiN
 generalize S.order[k] = i at ei hiN hp1 hcut hal hdep hpar hkid hid
 refine (hx2.ext hf).ixs (E := nodeE) rfl rfl ck fun b o1 hr => ?_
 rw [ei] at hr
 have hr : Rd s10 b o1 (S.pl i).n.cells := hr
 refine ⟨_, _, _, _, _, _, _, hr.all rfl, fun m22 s23 n23 => ?_⟩
 obtain ⟨s24, w24, o24, f24, fr24⟩ := n23.put (S.pl i).n.cells rfl rfl
 have hso24 := hso.ext f24
 have hpl : (pathN S k).length ≤ 1000 := by
  cases k with
  | zero => simp [pathN]
  | succ k =>
   have := above_len' hT (S.order.getD k 0)
   have hm : S.order.getD k 0 ∈ S.N := by rw [getD_lt (by omega)]; exact hop.mem_iff.1 (List.getElem_mem _)
   have := above_len hT hm
   show (((S.order.getD k 0) :: S.above (S.order.getD k 0)).reverse.map fun i => (S.pl i).n).length ≤ 1000
   rw [List.length_map, List.length_reverse, List.length_cons]; omega
 refine ⟨s24, w24, _, o24.ld1 4 rfl, ?_⟩
 rw [hdep]
 refine bsel_of (fun e => by simp at e; omega) fun _ => ⟨_, o24.ld1 4 rfl, hso24.sl.slen ?_⟩
 rw [hdep]
 refine bsel_of (fun e => ?_) fun _ => fun s28 b28 => ?_
 ·have e : ((S.above i).length : Int) > ((pathN S k).length : Int) := by simpa using e
  omega
 have hso28 := hso24.ext b28.fwd
 have o28 := o24.ext b28.fwd
 refine ⟨_, o28.ld1 4 rfl, ?_⟩
 rw [hdep]
 obtain ⟨y30, hy30, happ⟩ := hso28.takeApp (D := D) hnil hcut.1
 rw [show sliceV 7 v none (some (.int .i64 ((S.above i).length : Int))) none = some y30 from hy30]
 refine ⟨_, _, _, _, _, _, _, o28.all rfl, ?_⟩
 have hb28 : s28.h.get (s24.nx + 5) = none := by rw [b28.get]; exact fr24 _ (by omega)
 have hnx28 : s24.nx + 5 < s28.nx := by rw [b28.1]; show s24.nx + 5 < s24.nx + 8; omega
 have f29 : Frw [] s28 (hsetS s28 (s24.nx + 5) (cellsO (S.pl i).n.cells)) := hsetS_fwd hb28
 obtain ⟨v39, s39, w39, so39, f39, bv39, fr39⟩ := happ (t := T.sl_api_Node) (a := (S.pl i).n) (e := (S.pl i).n.cells) (hso28.ext f29) ty.sl_api_Node rfl ty.api_Node rfl rfl rfl rfl (hsetS_own (cs := (S.pl i).n.cells)).rd rfl (show ((S.above i).length + 1 + ((S.above i).length + 1) / 4 + 600) * 56 ≤ pow48 by unfold pow48; omega) (by unfold pow48; omega) (hsetS_fr b28.fr hnx28)
 refine ⟨v39, s39, w39, fun s40 b40 => ?_⟩
 have F28 : Frw [] s10 (hsetS s28 (s24.nx + 5) (cellsO (S.pl i).n.cells)) := (f24.trans b28.fwd).trans f29
 have g10 : ∀ c, c ∈ blkOf v → s2.h.get c = none := hgv
 have F39 : Frw [] s2 s39 := (hf.trans F28).step f39 g10
 have F40 : Frw [] s2 s40 := F39.trans b40.fwd
 have hm22 : m22 ∉ blkOf v := fun hc => So.there' hso _ hc n23.gone
 have o40 : Own s40 m22 (S.pl i).n.cells := ((o28.ext f29).fwd f39 hm22).ext b40.fwd
 have hF40 := hF2.ext F40 b40.fr
 rw [hcut.2] at so39
 have so39' : So nodeE s39 v39 (pathN S (k + 1)) := by
  rw [hp1]; simpa using so39
 have so40 := so39'.ext b40.fwd
 have hgv39 : Gone s2 v39 := fun c hc => by
  rw [bv39] at hc
  have : c = (hsetS s28 (s24.nx + 5) (cellsO (S.pl i).n.cells)).nx := by simpa using hc
  rw [this]
  exact (hf.trans F28).none (hsetS_fr b28.fr hnx28 _ (Nat.le_refl _)) (by simp)
 have hnil1 : pathN S (k + 1) = [] → v39 = .nilslice := fun e => by rw [hp1] at e; simp at e
 have kids : ∀ {sa : St}, Frw [] s40 sa → Fr sa → CallsD P F.p_forest_Forest_Children [.ptr f 0, .int .u64 (S.pl i).n.id] sa fun xk sb => ∃ z, xk = z ∧ slenK z fun q => ∃ m', m' < S.order.length - k ∧ ∃ k1 : Nat, IntKind.wrap .i64 ((k : Int) + 1) = k1 ∧ m' = S.order.length - k1 ∧ k1 ≤ S.order.length ∧ IntKind.wrap .i64 (((S.rl.length + ((S.order.take k).flatMap S.kd).length : Nat) : Int) + ((q : Nat) : Int)) = ((S.rl.length + ((S.order.take k1).flatMap S.kd).length : Nat) : Int) ∧ So nodeE sb v39 (pathN S k1) ∧ (pathN S k1 = [] → v39 = .nilslice) ∧ Gone s2 v39 ∧ Frw [] s2 sb ∧ Fr sb := by
  intro sa fa fra
  rw [hid]
  refine (CallsD.of fun _ => Children_ok (hF40.ext fa fra) hT i).mono ?_
  rintro xk sb ⟨⟨⟨hk1, _⟩, fb⟩, frb⟩
  have ekd : kidsOf S i = S.kd i := by unfold kidsOf; rw [if_pos hiN]; rfl
  rw [ekd] at hk1
  refine ⟨_, rfl, hk1.slen ⟨_, by omega, k + 1, wrap_i64 (by omega) (by omega), rfl, by omega, ?_, (so40.ext fa).ext fb, hnil1, hgv39, (F40.trans fa).trans fb, frb⟩⟩
  rw [wrap_i64 (by omega) (by omega)]
  omega
 refine ⟨_, o40.ld1 4 rfl, ?_⟩
 rw [hdep]
 refine bsel_of (fun e => ?_) fun _ => ⟨_, o40.ld1 0 rfl, kids (.refl _ _) b40.fr⟩
 have e : 0 < (S.above i).length := by simp at e; omega
 have hg : (S.pl i).n.org = 0 := by
  apply Classical.byContradiction
  intro hg
  rw [above_root fun h => hg h.2] at e
  simp at e
 have ea := above_inner hT hiN hg
 refine ⟨_, o40.ld1 4 rfl, ?_⟩
 rw [hdep]
 have ew : IntKind.wrap .i64 (((S.above i).length : Int) - 1) = (((S.above i).length - 1 : Nat) : Int) := by rw [wrap_i64 (by omega) (by omega)]; omega
 rw [ew]
 have hlt : (S.above i).length - 1 < (pathN S (k + 1)).length := by rw [hp1]; simp; omega
 have hget : (pathN S (k + 1))[(S.above i).length - 1] = (S.pl (S.C i).par).n := by
  simp only [hp1, List.getElem_map]
  have e2 : (i :: S.above i).reverse = (S.above (S.C i).par).reverse ++ [(S.C i).par] ++ [i] := by rw [ea]; simp
  have e3 : (S.above i).length - 1 = (S.above (S.C i).par).reverse.length := by rw [ea]; simp
  simp only [e2, e3]
  rw [List.getElem_append_left (by simp), List.getElem_append_right (by simp)]
  simp
 have hpN := (hT.all i hiN hg).1
 refine so40.sl.ixs (E := nodeE) rfl rfl hlt fun b2 o2 hr2 => ?_
 rw [hget] at hr2
 have hr2 : Rd s40 b2 o2 (S.pl (S.C i).par).n.cells := hr2
 refine ⟨_, hr2.ld1 0 rfl, _, o40.ld1 1 rfl, bsel_of (fun e => ?_) fun _ => ⟨_, o40.ld1 0 rfl, kids (.refl _ _) b40.fr⟩⟩
 have e : (S.pl (S.C i).par).n.id ≠ (S.pl i).n.par := by simpa using e
 exact absurd ((hS.id _ hpN).trans (hpar hg).symm) e
end
end Go.Eng.S

namespace Go.Eng.S
open Go Go.Eng Go.Proofs
set_option linter.constructorNameAsVariable false
noncomputable section
attribute [local irreducible] bsel
set_option maxHeartbeats 8000000 in
set_option maxRecDepth 10000 in
theorem ForestTrees_ok {x : AV} {l : List SpX} {s : St} (hTab : TabP s) (h : Sl spE s x l) (hA : ∀ a, a ∈ l → a.Ok s) :
  CallsA P F.spoorlaw10_ForestTrees [x] s fun v _ => v = .bool true := by
 refine vc.spoorlaw10_ForestTrees_ok ((awake_ok s).mono ?_)
 rintro _ _ ⟨rfl, rfl⟩
 refine ⟨true, rfl, (Build_ok hTab h hA).mono ?_⟩
 rintro _ s5 (⟨_, rfl, _⟩ | ⟨hb, f, B, o, S, rfl, hF, hS⟩)
 ·exact ⟨_, _, rfl, bsel_of (fun c => by simp at c) fun _ => bsel_of (fun _ => rfl) fun c => by simp at c⟩
 obtain ⟨hlen, h0, hnd⟩ := hb.facts
 obtain ⟨q1, q2, q3, q4, q5, q6⟩ := hS.facts hb hF
 have hT := hS.kids
 have hrl : ∀ i, i ∈ S.rl → i ∈ S.N ∧ (S.pl i).n.org ≠ 0 := fun i hi => (hS.rts i).1 hi
 have hpar : ∀ i, i ∈ S.N → (S.pl i).n.org = 0 → (S.pl i).n.par = (S.C i).par := fun i hi hg => by rw [hS.par i hi, if_pos hg]
 have hle : ∀ i, i ∈ S.N → (S.C i).t0 ≤ (S.C i).t1 := fun i hi => by
  rw [hS.N, List.mem_map] at hi
  obtain ⟨c, hc, rfl⟩ := hi
  rw [hS.C c hc]
  obtain ⟨_, hchk⟩ := fitB_all hb.1
  exact (chk_small (hchk c hc)).2.2.2.2.1
 have hN : S.N = l.map fun x => x.c.id := hS.N.trans (map_ids l)
 refine ⟨_, _, rfl, bsel_of (fun c => by simp at c) fun _ => bsel_of (fun c => by simp at c) fun _ => ?_⟩
 refine ((CallsD.of fun _ => nodes_ok hF hT hrl (by omega) (by omega)).a).mono ?_
 rintro a s10 ⟨⟨ha, _, f10⟩, fr10⟩
 have hF10 := hF.ext f10 fr10
 refine ⟨_, rfl, ((CallsD.of fun _ => Roots_ok hF10 hT.hid (fun i hi => (hrl i hi).1) (by omega)).a).mono ?_⟩
 rintro y s13 ⟨⟨⟨hy, _⟩, f13⟩, fr13⟩
 have hF13 := hF10.ext f13 fr13
 refine ⟨_, rfl, ((CallsD.of fun _ => ordered_ok hF13 hS hy (fun i hi => (hrl i hi).1) hS.rsrt (by omega)).a).mono ?_⟩
 rintro _ s16 ⟨⟨rfl, f16⟩, fr16⟩
 have hF16 := hF13.ext f16 fr16
 have ha16 : Sl nodeE s16 a (S.order.map fun i => (S.pl i).n) := (ha.sl.ext f13).ext f16
 have hy16 := hy.ext f16
 have hx16 := h.ext hF16.fwd
 have ela : (S.order.map fun i => (S.pl i).n).length = l.length := by simp [q3]
 have eil : S.il.length = l.length := by rw [hS.ilp.length_eq, q1]
 refine ⟨true, rfl, fun s' _ => s' = s16, ⟨fun c s' _ => c = false ∧ s' = s16, ?_, ?_⟩, ?_⟩
 ·refine ha16.slen (hx16.slen (bsel_of (fun c => by rw [ela] at c; simp at c) fun _ => ((Count_ok hF16).a).mono ?_))
  rintro _ _ ⟨rfl, rfl⟩
  exact ⟨_, rfl, hx16.slen (bsel_of (fun c => by rw [eil] at c; simp at c) fun _ => ⟨0, rfl, rfl⟩)⟩
 ·rintro _ _ _ ⟨rfl, rfl⟩
  exact bsel_of (fun c => by simp at c) fun _ => ⟨0, rfl⟩
 rintro s33 _ hs33
 have hs33 : s33 = s16 := hs33
 subst hs33
 refine ⟨fun n s' m => ∃ k : Nat, n = k ∧ m = l.length - k ∧ k ≤ l.length ∧ Frw [] s33 s' ∧ Fr s', ⟨_, 0, rfl, rfl, by omega, .refl _ _, fr16⟩, ?_⟩
 rintro _ s38 _ ⟨k, rfl, rfl, hk, f38, fr38⟩
 have hF38 := hF16.ext f38 fr38
 have hx38 := hx16.ext f38
 refine hx38.slen (bsel_of (fun c => ?_) fun _ => ?_)
 rotate_left
 ·refine ((CallsD.of fun _ => fits_law hF38 hS q2 (ha16.ext f38)).a).mono ?_
  rintro _ s252 ⟨⟨rfl, _⟩, _⟩
  exact ⟨true, rfl, rfl⟩
 have c : k < l.length := by simpa using c
 have hw : IntKind.wrap .i64 ((k : Int) + 1) = ((k + 1 : Nat) : Int) := wrap_i64 (by omega) (by omega)
 refine ⟨fun s' _ => Frw [] s38 s' ∧ Fr s', ?_, fun s248 _ ⟨g1, g2⟩ => ⟨l.length - (k + 1), by omega, k + 1, hw, rfl, by omega, f38.trans g1, g2⟩⟩
 have hcm : l[k].c ∈ l.map SpX.c := List.mem_map_of_mem (List.getElem_mem c)
 have hiN : l[k].c.id ∈ S.N := by rw [hN]; exact List.mem_map.2 ⟨_, List.getElem_mem c, rfl⟩
 have hCi : S.C l[k].c.id = l[k].c := hS.C _ hcm
 have hat := SpX.ones (hA _ (List.getElem_mem c)).1
 refine hx38.ixs rfl rfl c fun b1 o1 hr1 => ⟨_, _, _, _, _, _, _, _, _, _, _, _, _, hr1.all rfl, fun m57 s58 n58 => ?_⟩
 generalize l[k] = sp at hcm hiN hCi hat hr1
 obtain ⟨s59, w59, o59, f59, fr59⟩ := n58.put sp.cells hat rfl
 refine ⟨s59, w59, _, o59.ld1 2 rfl, ?_⟩
 generalize hi : sp.c.id = i at hiN hCi
 have hF59 := hF38.ext f59 fr59
 refine ((CallsD.of fun _ => Node_ok hF59 i).a).mono ?_
 rintro _ s62 ⟨⟨rfl, f62⟩, fr62⟩
 simp only [if_pos hiN, decide_eq_true hiN]
 refine ⟨_, _, _, _, _, _, _, true, rfl, fun m71 s72 n72 => ?_⟩
 obtain ⟨s73, w73, o73, f73, fr73⟩ := n72.put (S.pl i).n.cells rfl rfl
 have o57 : Own s73 m57 sp.cells := (o59.ext f62).ext f73
 have F73 : Frw [] s38 s73 := (f59.trans f62).trans f73
 have hF73 := hF38.ext F73 fr73
 refine ⟨s73, w73, _, o57.ld1 2 rfl, ?_⟩
 rw [hi]
 have hal := above_len hT hiN
 refine ((CallsD.of fun _ => above_ok hF73 hT hpar i (by omega)).a).mono ?_
 rintro u s76 ⟨⟨hu, _, f76⟩, fr76⟩
 have F76 := F73.trans f76
 have hF76 := hF38.ext F76 fr76
 have o57 := o57.ext f76
 have o71 := o73.ext f76
 have hdep := depth_ok hS q2 hiN
 have hid := hS.id i hiN
 have hroot : (S.above i).length = 0 ↔ (S.pl i).n.org ≠ 0 := by
  constructor
  ·intro e hg
   rw [above_inner hT hiN hg] at e; simp at e
  ·intro hg
   rw [above_root fun h => hg h.2]; rfl
 have hrlm : i ∈ S.rl ↔ (S.pl i).n.org ≠ 0 := by rw [hS.rts]; exact ⟨fun h => h.2, fun h => ⟨hiN, h⟩⟩
 refine ⟨_, rfl, fun s' _ => Frw [] s76 s' ∧ Fr s', ⟨fun c s' _ => c = false ∧ Frw [] s76 s' ∧ Fr s', ?_, ?_⟩, ?_⟩
 ·intro s80 b80
  have o71' := o71.ext b80.fwd
  have o57' := o57.ext b80.fwd
  refine bsel_of (fun c => by simp at c) fun _ => ⟨_, o71'.ld1 0 rfl, _, o57'.ld1 2 rfl, bsel_of (fun c => ?_) fun _ => ?_⟩
  ·rw [hid, hi] at c; simp at c
  refine (hu.sl.ext b80.fwd).slen ⟨_, o71'.ld1 4 rfl, bsel_of (fun c => ?_) fun _ => ⟨_, o71'.ld1 4 rfl, _, o71'.ld1 2 rfl, bsel_of (fun c => ?_) fun _ => ?_⟩⟩
  ·rw [hdep] at c; simp at c
  ·exfalso
   rw [hdep] at c
   by_cases hg : (S.pl i).n.org = 0
   ·have : ¬ (S.above i).length = 0 := fun e => hroot.1 e hg
    have e1 : (((S.above i).length : Int) == 0) = false := beq_eq_false_iff_ne.2 (by omega)
    rw [e1, hg] at c
    simp at c
   ·have e0 := hroot.2 hg
    rw [e0] at c
    simp [hg] at c
  refine ⟨_, o57'.ld1 2 rfl, ?_⟩
  rw [hi]
  have hy80 := ((hy16.ext f38).ext F76).ext b80.fwd
  refine (CallsD.of fun _ => find_ok (i := i) hy80 (by omega)).mono ?_
  rintro _ s93 ⟨⟨⟨n94, rfl, h94⟩, rfl⟩, fr93⟩
  refine ⟨_, rfl, _, o71'.ld1 4 rfl, o71'.ld1 4 rfl, 0, ?_, b80.fwd, fr93⟩
  rw [hdep]
  by_cases hg : (S.pl i).n.org = 0
  ·have e1 : n94 < 0 := h94.2 fun hm => hrlm.1 hm hg
   have e2 : ¬ (S.above i).length = 0 := fun e => hroot.1 e hg
   have e3 : decide (n94 ≥ 0) = false := by simp; omega
   have e4 : (((S.above i).length : Int) == 0) = false := beq_eq_false_iff_ne.2 (by omega)
   rw [e3, e4]; rfl
  ·have e1 : ¬ n94 < 0 := fun hh => (h94.1 hh) (hrlm.2 hg)
   have e2 := hroot.2 hg
   have e3 : decide (n94 ≥ 0) = true := by simp; omega
   rw [e3, e2]; rfl
 ·rintro _ s98 _ ⟨rfl, g1, g2⟩
  exact bsel_of (fun c => by simp at c) fun _ => ⟨0, g1, g2⟩
 rintro s101 _ ⟨f101, fr101⟩
 have F101 := F76.trans f101
 have hF101 := hF38.ext F101 fr101
 have o57 := o57.ext f101
 have o71 := o71.ext f101
 have hu101 := hu.sl.ext f101
 have e9 : sp.c.t0 = (S.C i).t0 := by rw [hCi]
 have e10 : sp.c.t1 = (S.C i).t1 := by rw [hCi]
 refine ⟨_, o57.ld1 9 rfl, _, o57.ld1 10 rfl, fun m105 s106 n106 => ?_⟩
 obtain ⟨s107, w107, o107, f107, fr107⟩ := n106.put [.int .i64 sp.c.t0, .int .i64 sp.c.t1] rfl rfl
 refine ⟨s107, w107, fun n s' m => ∃ q : Nat, n = q ∧ m = (S.above i).length - q ∧ q ≤ (S.above i).length ∧ Own s' m105 [.int .i64 (foldN mx2 (fun a => (S.C a).t0) (i :: (S.above i).take q)), .int .i64 (foldN mn2 (fun a => (S.C a).t1) (i :: (S.above i).take q))] ∧ Frw [] s101 s' ∧ Fr s',
  ⟨_, 0, rfl, rfl, by omega, by rw [e9, e10] at o107; exact o107, f107, fr107⟩, ?_⟩
 rintro _ s111 _ ⟨q, rfl, rfl, hq, o105, f111, fr111⟩
 have hF111 := hF101.ext f111 fr111
 refine (hu101.ext f111).slen (bsel_of (fun c2 => ?_) fun c2 => ?_)
 ·have c2 : q < (S.above i).length := by simpa using c2
  have htk : (S.above i).take (q + 1) = (S.above i).take q ++ [(S.above i)[q]] := List.take_succ_eq_append_getElem c2
  have hjN := above_in hT hiN _ (List.getElem_mem c2)
  refine (hu101.ext f111).ixs rfl rfl c2 fun b2 o2 hr2 => ⟨_, hr2.ld1 0 rfl, ?_⟩
  generalize (S.above i)[q] = j at htk hjN
  refine ((CallsD.of fun _ => Span_ok hF111 q6 j).a).mono ?_
  rintro _ s118 ⟨(⟨_, a1, rfl, hN1⟩ | ⟨hn, _⟩), fr118⟩
  rotate_left
  ·exact absurd hjN hn
  refine ⟨_, _, _, _, _, _, _, _, _, _, _, _, _, true, rfl, fun m133 s134 n134 => ?_⟩
  obtain ⟨s135, w135, o135, f135, fr135⟩ := n134.put a1.cells (SpX.ones hN1.at') rfl
  have F135 := hN1.fwd.trans f135
  have o105' := o105.ext F135
  refine ⟨s135, w135, bsel_of (fun c => by simp at c) fun _ => ?_⟩
  have ne : m133 ≠ m105 := (n134.ne ((o105.ext hN1.fwd).there)).symm
  have ej0 : a1.c.t0 = (S.C j).t0 := by rw [hN1.c]
  have ej1 : a1.c.t1 = (S.C j).t1 := by rw [hN1.c]
  obtain ⟨s138, w138, o138, f138, n138, _, c138⟩ := o105'.wrN 0 [.int .i64 (mx2 (foldN mx2 (fun a => (S.C a).t0) (i :: (S.above i).take q)) a1.c.t0)] rfl (by simp)
  have fr138 : Fr s138 := fr135.wr o105'.there n138 c138
  obtain ⟨s141, w141, o141, f141, n141, _, c141⟩ := o138.wrN 1 [.int .i64 (mn2 (foldN mn2 (fun a => (S.C a).t1) (i :: (S.above i).take q)) a1.c.t1)] rfl (by simp [splice])
  have fr141 : Fr s141 := fr138.wr o138.there n141 c141
  refine ⟨_, o105'.ld1 0 rfl, _, o135.ld1 9 rfl, s138, w138, _, o138.ld1 1 rfl, _, (o135.fwd f138 (by simpa using ne)).ld1 10 rfl, s141, w141, (S.above i).length - (q + 1), by omega, q + 1, wrap_i64 (by omega) (by omega), rfl, by omega, ?_, ?_, fr141⟩
  ·rw [htk]
   have k1 : foldN mx2 (fun a => (S.C a).t0) (i :: ((S.above i).take q ++ [j])) = mx2 (foldN mx2 (fun a => (S.C a).t0) (i :: (S.above i).take q)) a1.c.t0 := by
    rw [ej0]; exact foldN_snoc mx2_assoc
   have k2 : foldN mn2 (fun a => (S.C a).t1) (i :: ((S.above i).take q ++ [j])) = mn2 (foldN mn2 (fun a => (S.C a).t1) (i :: (S.above i).take q)) a1.c.t1 := by
    rw [ej1]; exact foldN_snoc mn2_assoc
   rw [k1, k2]
   exact o141
  ·have g105 : s101.h.get m105 = none := n106.gone
   exact ((f111.trans F135).step f138 fun c hc => by rw [List.mem_singleton.1 hc]; exact g105).step f141 fun c hc => by rw [List.mem_singleton.1 hc]; exact g105
 have c2 : q = (S.above i).length := by simp at c2; omega
 subst c2
 rw [List.take_length] at o105
 obtain ⟨z1, z2, z3, z4⟩ := clip_in hS hle hiN
 have o105 : Own s111 m105 [.int .i64 (cFrom S i), .int .i64 (cTo S i)] := o105
 have o71' := o71.ext f111
 have o57' := o57.ext f111
 refine ⟨fun s' _ => s' = s111, ⟨fun c s' _ => c = false ∧ s' = s111, ?_, ?_⟩, ?_⟩
 ·refine ⟨_, o71'.ld1 6 rfl, _, o71'.ld1 5 rfl, bsel_of (fun e => ?_) fun _ => ⟨_, o105.ld1 0 rfl, _, o105.ld1 1 rfl, bsel_of (fun e => ?_) fun e => ?_⟩⟩
  ·have e : (S.pl i).n.till < (S.pl i).n.fr := by simpa using e
   omega
  ·have e : cFrom S i < cTo S i := by simpa using e
   obtain ⟨y1, y2⟩ := z2 e
   refine ⟨_, _, o71'.ldN 5 2 (by simp [Nd.cells]), _, _, o105.ldN 0 2 (by simp), bsel_of (fun e2 => ?_) fun _ => ⟨_, o105.ld1 0 rfl, _, o105.ld1 1 rfl, bsel_of (fun e2 => ?_) fun _ => ⟨0, rfl, rfl⟩⟩⟩
   ·rw [y1, y2] at e2; simp at e2
   ·have e2 : cFrom S i ≥ cTo S i := by simpa using e2
    omega
  ·have e : ¬ cFrom S i < cTo S i := by simpa using e
   refine ⟨_, o105.ld1 0 rfl, _, o105.ld1 1 rfl, bsel_of (fun _ => ⟨_, o71'.ld1 5 rfl, _, o71'.ld1 6 rfl, 0, ?_, rfl⟩) fun _ => ⟨0, rfl, rfl⟩⟩
   rw [z3 (by omega)]; simp
 ·rintro _ _ _ ⟨rfl, rfl⟩
  exact bsel_of (fun c => by simp at c) fun _ => ⟨0, rfl⟩
 rintro s171 _ hs171
 have hs171 : s171 = s111 := hs171
 subst hs171
 refine ⟨_, o71'.ld1 4 rfl, bsel_of (fun e => ?_) fun e => ?_⟩
 ·-- a root
  rw [hdep] at e
  have e : (S.above i).length = 0 := by simp at e; rw [e]; rfl
  have hg := hroot.1 e
  have ht : (S.pl i).n.tree = i := congrArg Tv.tree (node_root hS hiN hg)
  have hp0 : (S.pl i).n.par = 0 := by rw [hS.par i hiN, if_neg hg]
  refine ⟨fun s' _ => s' = s171, ⟨fun c s' _ => c = false ∧ s' = s171, ?_, ?_⟩, ?_⟩
  ·refine ⟨_, o71'.ld1 3 rfl, _, o57'.ld1 2 rfl, bsel_of (fun e => ?_) fun _ => ⟨_, o71'.ld1 1 rfl, 0, ?_, rfl⟩⟩
   ·rw [ht, hi] at e; simp at e
   ·rw [hp0]; rfl
  ·rintro _ _ _ ⟨rfl, rfl⟩
   exact bsel_of (fun c => by simp at c) fun _ => ⟨0, rfl⟩
  ·rintro s185 _ hs185
   have hs185 : s185 = s171 := hs185
   subst hs185
   exact ⟨0, F101.trans f111, fr111⟩
 ·-- beneath another one
  rw [hdep] at e
  have e : ¬ (S.above i).length = 0 := fun e' => by rw [e'] at e; simp at e
  have hg : (S.pl i).n.org = 0 := by
   apply Classical.byContradiction
   intro hg
   exact e (hroot.2 hg)
  have hpi := hpar i hiN hg
  obtain ⟨hpN, hik⟩ := hT.all i hiN hg
  have ea := above_inner hT hiN hg
  obtain ⟨tl, tp⟩ := tree_last hS hiN hg
  have hdp := depth_ok hS q2 hpN
  obtain ⟨z5, z6⟩ := z4 hg
  have hpar' : (S.C i).par = sp.c.par := by rw [hCi]
  refine ⟨_, o71'.ld1 1 rfl, ?_⟩
  rw [hpi]
  generalize hpe : (S.C i).par = p at *
  refine ((CallsD.of fun _ => Node_ok hF111 p).a).mono ?_
  rintro _ s190 ⟨⟨rfl, f190⟩, fr190⟩
  simp only [if_pos hpN, decide_eq_true hpN]
  refine ⟨_, _, _, _, _, _, _, true, rfl, fun m199 s200 n200 => ?_⟩
  obtain ⟨s201, w201, o201, f201, fr201⟩ := n200.put (S.pl p).n.cells rfl rfl
  have F201 := f190.trans f201
  refine ⟨s201, w201, _, (o71'.ext F201).ld1 1 rfl, ?_⟩
  rw [hpi]
  have hF201 := hF111.ext F201 fr201
  refine ((CallsD.of fun _ => Children_ok hF201 hT p).a).mono ?_
  rintro xk s204 ⟨⟨⟨hk1, _⟩, f204⟩, fr204⟩
  have ekd : kidsOf S p = S.kd p := by unfold kidsOf; rw [if_pos hpN]; rfl
  rw [ekd] at hk1
  have F204 := F201.trans f204
  have hkl := hT.len p hpN
  refine ⟨_, rfl, ((CallsD.of fun _ => ordered_ok (hF111.ext F204 fr204) hS hk1 (fun j hj => (hT.kids p hpN j hj).1) (hS.srt p hpN) (Nat.le_of_lt hkl)).a).mono ?_⟩
  rintro _ s207 ⟨⟨rfl, f207⟩, fr207⟩
  have F207 := F204.trans f207
  refine ⟨true, rfl, fun c s' _ => c = false ∧ Frw [] s207 s' ∧ Fr s', ?_, ?_⟩
  ·intro s210 b210
   have F210 := F207.trans b210.fwd
   have o71s := o71'.ext F210
   have o57s := o57'.ext F210
   have o199s : Own s210 m199 (S.pl p).n.cells := ((o201.ext f204).ext f207).ext b210.fwd
   have hu210 := (hu101.ext f111).ext F210
   have hkid210 : Sl linkE s210 xk (S.kd p) := (hk1.ext f207).ext b210.fwd
   have hl0 : 0 < (S.above i).length := by omega
   have hg0 : (S.above i)[0] = p := by simp only [ea, List.getElem_cons_zero]
   have hgl : (S.above i)[(S.above i).length - 1] = (S.pl i).n.tree := by
    have := tl
    rw [List.getLast?_eq_getElem?, List.getElem?_eq_getElem (by omega)] at this
    simpa using this
   have ew : IntKind.wrap .i64 (((S.above i).length : Int) - 1) = (((S.above i).length - 1 : Nat) : Int) := by rw [wrap_i64 (by omega) (by omega)]; omega
   refine bsel_of (fun c => by simp at c) fun _ => bsel_of (fun c => by simp at c) fun _ => ⟨_, o71s.ld1 1 rfl, _, o57s.ld1 3 rfl, bsel_of (fun c => ?_) fun _ => ?_⟩
   ·rw [hpi, hpar'] at c; simp at c
   refine hu210.ixs rfl rfl hl0 fun b3 o3 hr3 => ⟨_, hr3.ld1 0 rfl, _, o71s.ld1 1 rfl, bsel_of (fun c => ?_) fun _ => hu210.slen ?_⟩
   ·rw [hg0, hpi] at c; simp at c
   rw [ew]
   refine hu210.ixs rfl rfl (show (S.above i).length - 1 < (S.above i).length by omega) fun b4 o4 hr4 => ⟨_, hr4.ld1 0 rfl, _, o71s.ld1 3 rfl, bsel_of (fun c => ?_) fun _ => ⟨_, o199s.ld1 3 rfl, _, o71s.ld1 3 rfl, bsel_of (fun c => ?_) fun _ => ⟨_, o199s.ld1 4 rfl, _, o71s.ld1 4 rfl, bsel_of (fun c => ?_) fun _ => ?_⟩⟩⟩
   ·rw [hgl] at c; simp at c
   ·rw [tp] at c; simp at c
   ·rw [hdep, hdp, ew, ea] at c; simp at c
   refine ⟨_, o57s.ld1 2 rfl, ?_⟩
   rw [hi]
   refine (CallsD.of fun _ => find_ok (i := i) hkid210 (Nat.le_of_lt hkl)).mono ?_
   rintro _ s235 ⟨⟨⟨n236, rfl, h236⟩, rfl⟩, fr235⟩
   refine ⟨_, rfl, bsel_of (fun c => ?_) fun _ => ⟨_, o71s.ld1 5 rfl, _, o199s.ld1 5 rfl, bsel_of (fun c => ?_) fun _ => ⟨_, o71s.ld1 6 rfl, _, o199s.ld1 6 rfl, 0, ?_, b210.fwd, fr235⟩⟩⟩
   ·exact absurd hik (h236.1 (by simpa using c))
   ·have c : (S.pl i).n.fr < (S.pl p).n.fr := by simpa using c
    omega
   ·have : ¬ (S.pl i).n.till > (S.pl p).n.till := by omega
    simp [this]
  ·rintro _ s245 _ ⟨rfl, g1, g2⟩
   exact bsel_of (fun c => by simp at c) fun _ => ⟨0, ((F101.trans f111).trans F207).trans g1, g2⟩
end
end Go.Eng.S

namespace Go.Eng.S
open Go Go.Eng Go.Proofs Go.RowKit Go.Lib
set_option linter.constructorNameAsVariable false
noncomputable section
theorem ForestTrees_walk {H : Type} {enc : TypeId × Value → H} {w : World} {base : Nat} {held : Bool} {fuel : Nat} {v : Value} {x : DataW H × List MemPlace} (hT : TabsW 0 1 w) (h : DataW.trod enc P w base (fun _ => true) held fuel T.sl_api_Span [v] = some x) :
  Calls P F.spoorlaw10_ForestTrees #[v] w fun e w' => e = .returned (.bool true) ∧ Below w.heap.size w w' := by
 obtain ⟨a, l, h1, h2, h3, _⟩ := spans_read hT h
 exact CallsA.topT hT (ForestTrees_ok (stT_tabs hT) h2 h3) (.cons (absT_ok h1) .nil)
end
end Go.Eng.S

