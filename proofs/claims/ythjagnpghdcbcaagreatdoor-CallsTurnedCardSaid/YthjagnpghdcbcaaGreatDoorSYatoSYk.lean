/-
  Calls; lists that are handed on one by one.
  The order of calls, in plain text.
  The order of calls; their sort.
  What 'Delta' says.
  'Delta'.
  A call's tally.
  The sum of calls' tallies.
  What was put together from single calls is taken apart; sums hang on no order: plain laws.
  Tallies that are one; which of so many; calls that are put in another order.
  'CallsTurned': the walk.
  'CallsTurned': calls as a row hands them in; the walk.
-/
import Derived.Test.YthjagnpghdcbcaaGreatDoorSVatoSVg
import Derived.Test.YthjagnpghdcbcaaGreatDoorW15to27
import Derived.Test.YthjagnpghdcbcaaGreatDoorSYstoSPi
import Derived.Test.YthjagnpghdcbcaaGreatDoorSVhtoSVi
import Derived.Test.YthjagnpghdcbcaaGreatDoorSVktoSVj
import Derived.Test.YthjagnpghdcbcaaGreatDoorSPe
import Derived.Test.YthjagnpghdcbcaaGreatDoorW13to14
namespace Go.Eng.S
open Go Go.Eng Go.Proofs
set_option linter.constructorNameAsVariable false
set_option maxRecDepth 4000
noncomputable section
attribute [local irreducible] bsel callK itK
structure CallR where
 hour : Int
 edge : SS
 failed : Bool
 took : Int
deriving DecidableEq
instance : Inhabited CallR := ⟨⟨0, (ByteArray.empty, ByteArray.empty), false, 0⟩⟩
def callF (c : CallR) : List AV := [.int .i64 c.hour, .str c.edge.1, .str c.edge.2, .bool c.failed, .int .u64 c.took]
def callE : Enc CallR := ⟨callF, 5, by decide, fun _ => rfl⟩
theorem Values_ok {s : St} {a : AV} {l : List CallR} (ha : Sl callE s a l) : CallsD P F.slices_Values_sl_api_Call_api_Call [a] s fun v s' => (∃ m, v = .func F.slices_Values_sl_api_Call_api_Call__S1 [] [.ptr m 0] ∧ Own s' m [a] ∧ s.h.get m = none ∧ Frw [] s s') ∧ Fr s' := by
 refine CallsD.of fun hfr => vc.slices_Values_sl_api_Call_api_Call_ok (ha.one ?_)
 intro m1 s2 h2
 exact ⟨m1, rfl, h2.own, h2.gone, h2.fwd⟩
theorem Values_seq {s0 : St} {a : AV} {l : List CallR} {m : Nat} (ha : Sl callE s0 a l) (hm : Own s0 m [a]) (hsz : l.length < 4611686018427387904) :
  SeqA P D (m :: blkOf a) s0 (.func F.slices_Values_sl_api_Call_api_Call__S1 [] [.ptr m 0]) l.length fun i => [.agg (callF (at' l i))] := by
 intro lb s M0 M J K f0 hfr hM0 hM h0 hround hst hK
 refine itK_of (fi := fnI Tryz.f70) (by kernel_rfl) ?_
 show CallsA P F.slices_Values_sl_api_Call_api_Call__S1 [.yld lb, .ptr m 0] s _
 refine vc.slices_Values_sl_api_Call_api_Call__S1_ok ?_
 have hm' := hm.fwd f0 fun h => hM0 m h (by simp)
 have ha' := ha.beside f0 fun c hc => .inr fun h => hM0 c hc (by simp [h])
 refine ⟨a, hm'.ld1 0 rfl, ha'.slen ⟨fun n s1 k => ∃ i : Nat, n = i ∧ k = l.length - i ∧ i ≤ l.length ∧ J i s1 ∧ Frw M s s1 ∧ Fr s1, ⟨_, 0, rfl, rfl, by omega, h0, .refl _ _, hfr⟩, ?_⟩⟩
 rintro _ s6 m7 ⟨i, rfl, hm7, hi, hJ, f6, hfr6⟩
 refine bsel_of (fun c => ?_) fun c => ?_
 ·have c : i < l.length := by simpa using c
  have ha6 := ha'.beside f6 fun c hc => .inr fun h => hM c hc (by simp [h])
  refine ha6.ixs rfl rfl c fun b o hR => ⟨_, _, _, _, _, hR.all rfl, ?_⟩
  intro m15 s16 h16
  obtain ⟨s17, w, o15, f17, w4, w5, w6⟩ := h16.own.wrAll (callF l[i]) rfl rfl
  have f617 : Frw [] s6 s17 := h16.fwd.step f17 (by simpa using h16.gone)
  refine ⟨s17, w, _, _, _, _, _, o15.all rfl, callK_yld ?_⟩
  have hr : RoundA P lb [.agg (callF (at' l i))] s17 _ := hround i s17 c (hst _ _ _ hJ f617) (f6.trans (f617.mono (by simp))) (h16.fr.wr h16.own.there w4 w6)
  rw [← at_eq c] at hr
  refine hr.mono ?_
  rintro _ s24 ⟨rfl, hJ', f24, hfr24⟩
  exact ⟨true, rfl, bsel_of (fun c => by simp at c) fun _ => ⟨l.length - (i + 1), by omega, i + 1, wr_succ (by omega), rfl, by omega, hJ', f24, hfr24⟩⟩
 ·have c : i = l.length := by simp at c; omega
  subst c
  exact hK s6 hJ f6 hfr6
set_option maxHeartbeats 1000000 in
theorem AppendSeq_ok {s : St} {x0 f : AV} {L0 xs : List CallR} {B : List Nat} (hx : So callE s x0 L0) (hs : SeqA P D B s f xs.length fun i => [.agg (callF (at' xs i))]) (hB : ∀ c, c ∈ B → c ∉ blkOf x0) (hB2 : ∀ c, c ∈ B → s.h.get c ≠ none)
  (hlen : ((L0 ++ xs).length + 1 + ((L0 ++ xs).length + 1) / 4 + 600) * 56 ≤ pow48) :
  CallsA P F.slices_AppendSeq_sl_api_Call_api_Call [x0, f] s fun v s' => So callE s' v (L0 ++ xs) ∧ (∀ c, c ∈ blkOf v → c ∈ blkOf x0 ∨ s.h.get c = none) ∧ Frw (blkOf x0) s s' ∧ Fr s' := by
 refine CallsA.fr fun hfr => vc.slices_AppendSeq_sl_api_Call_api_Call_ok (hx.sl.one ?_)
 intro m1 s2 h2 m3 s4 h4 lo m6 s7 h7 hr
 have f27 : Frw [] s s7 := (h2.fwd.trans h4.fwd).trans h7.fwd
 have n13 : m1 ≠ m3 := h4.ne h2.own.there
 have n16 : m1 ≠ m6 := h7.ne (h2.own.ext h4.fwd).there
 have g3 : objAt s4 m3 = some (.dfd true) := h4.at
 have n36 : m3 ≠ m6 := h7.ne (by show objAt s4 m3 ≠ none; rw [g3]; simp)
 have hx0 : ∀ c, c ∈ blkOf x0 → s.h.get c ≠ none := fun c hc => by
  have := hx.there c hc
  exact this
 have q1 : m1 ∉ blkOf x0 := fun h => hx0 _ h h2.gone
 have q3 : m3 ∉ blkOf x0 := fun h => hx0 _ h (h2.fwd.none h4.gone (by simp))
 have q6 : m6 ∉ blkOf x0 := fun h => hx0 _ h ((h2.fwd.trans h4.fwd).none h7.gone (by simp))
 have hlast : ∀ s1, (∃ x, Own s1 m1 [x] ∧ objAt s1 m6 = some (lo none .ready) ∧ objAt s1 m3 = some (.dfd true) ∧ So callE s1 x (L0 ++ xs.take xs.length) ∧ ∀ c, c ∈ blkOf x → c ∈ blkOf x0 ∨ s7.h.get c = none) → Frw (m1 :: m6 :: blkOf x0) s7 s1 → Fr s1 →
   objAt s1 m6 = some (lo none .ready) ∧ ∃ x32, ld1 (hsetS s1 m6 (lo none .exhausted)) (.ptr m1 0) = some x32 ∧ ∃ s33, endDs (hsetS s1 m6 (lo none .exhausted)) [m3] = some s33 ∧ So callE s33 x32 (L0 ++ xs) ∧ (∀ c, c ∈ blkOf x32 → c ∈ blkOf x0 ∨ s.h.get c = none) ∧ Frw (blkOf x0) s s33 ∧ Fr s33 := by
  rintro s1 ⟨x, o1, o6, o3, hso, hbx⟩ f1 hfr1
  rw [List.take_length] at hso
  have d6 : m6 ∉ blkOf x := fun h => (hbx _ h).elim q6 fun e => by
   have := h7.at; unfold objAt at this; rw [e] at this; simp at this
  have d3 : m3 ∉ blkOf x := fun h => (hbx _ h).elim q3 fun e => by
   have := objAt_fwd g3 h7.fwd (by simp); unfold objAt at this; rw [e] at this; simp at this
  have o3' : objAt (hsetS s1 m6 (lo none .exhausted)) m3 = some (.dfd true) := by rw [objAt_ne n36]; exact o3
  refine ⟨o6, x, (o1.fwd hsetS_frw (by simpa using n16)).ld1 0 rfl, _, endDs_one o3', ?_, fun c hc => ?_, ?_, objAt_fr o3' (objAt_fr o6 hfr1)⟩
  ·exact (hso.beside hsetS_frw (fun c hc => by have : c = m6 := by simpa using hc
                                               rw [this]; exact d6)).beside hsetS_frw fun c hc => by
    have : c = m3 := by simpa using hc
    rw [this]; exact d3
  ·rcases hbx c hc with h | h
   ·exact .inl h
   ·exact .inr (f27.none h (by simp))
  ·have z1 : Frw (blkOf x0) s s1 := (f27.mono (by simp)).go f1 fun c hc => by
    rcases List.mem_cons.1 hc with rfl | hc
    ·exact .inr h2.gone
    ·rcases List.mem_cons.1 hc with rfl | hc
     ·exact .inr ((h2.fwd.trans h4.fwd).none h7.gone (by simp))
     ·exact .inl hc
   refine (z1.go hsetS_frw fun c hc => ?_).go hsetS_frw fun c hc => ?_
   ·have : c = m6 := by simpa using hc
    rw [this]; exact .inr ((h2.fwd.trans h4.fwd).none h7.gone (by simp))
   ·have : c = m3 := by simpa using hc
    rw [this]; exact .inr (h2.fwd.none h4.gone (by simp))
 refine hs.fwd f27 (by simp) m6 s7 [] (m1 :: m6 :: blkOf x0) (fun i s1 => ∃ x, Own s1 m1 [x] ∧ objAt s1 m6 = some (lo none .ready) ∧ objAt s1 m3 = some (.dfd true) ∧ So callE s1 x (L0 ++ xs.take i) ∧ ∀ c, c ∈ blkOf x → c ∈ blkOf x0 ∨ s7.h.get c = none) _ (.refl _ _) h7.fr (by simp) (fun c hc hb => ?_) ?_ ?_ ?_ hlast
 ·rcases List.mem_cons.1 hc with rfl | hc
  ·exact hB2 _ hb h2.gone
  ·rcases List.mem_cons.1 hc with rfl | hc
   ·exact hB2 _ hb ((h2.fwd.trans h4.fwd).none h7.gone (by simp))
   ·exact hB c hb hc
 ·exact ⟨x0, (h2.own.ext h4.fwd).ext h7.fwd, h7.at, objAt_fwd g3 h7.fwd (by simp), by rw [List.take_zero, List.append_nil]; exact hx.ext f27, fun c hc => .inl hc⟩
 ·-- a round
  rintro i s1 hi ⟨x, o1, o6, o3, hso, hbx⟩ f1 hfr1
  have d6 : m6 ∉ blkOf x := fun h => (hbx _ h).elim q6 fun e => by
   have := h7.at; unfold objAt at this; rw [e] at this; simp at this
  have d3 : m3 ∉ blkOf x := fun h => (hbx _ h).elim q3 fun e => by
   have := objAt_fwd g3 h7.fwd (by simp); unfold objAt at this; rw [e] at this; simp at this
  have d1 : m1 ∉ blkOf x := fun h => (hbx _ h).elim q1 fun e => (((h2.own.ext h4.fwd).ext h7.fwd).there e)
  refine hr _ _ _ _ _ s1 _ o6 ?_
  intro m15 s16 h16
  obtain ⟨s17, w, o15, f17, w4, w5, w6⟩ := h16.own.wrAll (callF (at' xs i)) rfl rfl
  have f117 : Frw [] s1 s17 := h16.fwd.step f17 (by simpa using h16.gone)
  have hfr17 := h16.fr.wr h16.own.there w4 w6
  have p6 : objAt s17 m6 = some (lo none .ready) := objAt_fwd o6 f117 (by simp)
  have n15 : m15 ≠ m6 := fun e => by
   have := h16.gone; rw [e] at this; unfold objAt at o6; rw [this] at o6; simp at o6
  refine ⟨s17, w, p6, x, ((o1.ext f117).fwd hsetS_frw (by simpa using n16)).ld1 0 rfl, _, _, _, _, _, (o15.fwd hsetS_frw (by simpa using n15)).all rfl, ?_⟩
  intro m24 s25 h25
  have hso25 : So callE s25 x (L0 ++ xs.take i) := ((hso.ext f117).beside hsetS_frw fun c hc => by
   have : c = m6 := by simpa using hc
   rw [this]; exact d6).ext h25.fwd
  have hln : (L0 ++ xs.take i).length ≤ (L0 ++ xs).length := by simp only [List.length_append, List.length_take]; omega
  obtain ⟨x26, s27, k1, k2, k3, k4, k5, k6⟩ := So.append' (a := at' xs i) hso25 ty.sl_api_Call rfl ty.api_Call rfl rfl rfl rfl h25.own.rd rfl (Nat.le_trans (Nat.mul_le_mul_right 56 (by omega)) hlen) (by unfold pow48 at hlen ⊢; omega) h25.fr
  have o1' : Own s27 m1 [x] := (((o1.ext f117).fwd hsetS_frw (by simpa using n16)).ext h25.fwd).fwd k3 d1
  obtain ⟨s28, y1, o1'', f28, y4, y5, y6⟩ := o1'.wrAll [x26] (k2.sl.onesx []) rfl
  have e6 : objAt s28 m6 = some (lo none .busy) := objAt_fwd (objAt_fwd (objAt_fwd objAt_set h25.fwd (by simp)) k3 d6) f28 (by simpa using n16.symm)
  have e3 : objAt s28 m3 = some (.dfd true) := objAt_fwd (objAt_fwd (objAt_fwd (by rw [objAt_ne n36]; exact objAt_fwd o3 f117 (by simp)) h25.fwd (by simp)) k3 d3) f28 (by simpa using n13.symm)
  have hbx' : ∀ c, c ∈ blkOf x26 → c ∈ blkOf x0 ∨ s7.h.get c = none := fun c hc => by
   rw [k4] at hc
   have hc : c = s25.nx := by simpa using hc
   right
   have z : s25.h.get c = none := by rw [hc]; exact h25.fr _ (Nat.le_refl _)
   have z1 := h25.fwd.none z (by simp)
   have z2 : s17.h.get c = none := by
    refine Classical.byContradiction fun hn => hn ?_
    by_cases e : c = m6
    ·have := objAt_set (s := s17) (l := m6) (o := lo none .busy)
     unfold objAt at this
     rw [← e] at this
     rw [← e] at z1
     rw [this] at z1; simp at z1
    ·have := objAt_ne (s := s17) (o := lo none .busy) e
     unfold objAt at this
     rw [← this]; exact z1
   have z3 := f117.none z2 (by simp)
   refine Classical.byContradiction fun hn => ?_
   cases e : s7.h.get c with
   | none => exact hn e
   | some o =>
    have hM : c ∈ m1 :: m6 :: blkOf x0 := Classical.byContradiction fun hm => by
     have := f1.1 c o hm e
     rw [z3] at this; simp at this
    rcases List.mem_cons.1 hM with rfl | hM
    ·exact o1.there z3
    ·rcases List.mem_cons.1 hM with rfl | hM
     ·unfold objAt at o6; rw [z3] at o6; simp at o6
     ·exact hx0 c hM (by
       have hlt := Classical.byContradiction fun hg => hx0 c hM (hfr c (Nat.le_of_not_lt hg))
       have hge : s25.nx ≤ c := by omega
       have := f27.2.1; have := f1.2.1; have := f117.2.1; have := h25.fwd.2.1
       have : s17.nx ≤ s25.nx := this
       omega)
  have hfr28 : Fr s28 := k5.wr o1'.there y4 y6
  have fall : Frw (m1 :: m6 :: blkOf x0) s7 (hsetS s28 m6 (lo none .ready)) := by
   refine ((((f1.go f117 (by simp)).go (hsetS_frw (b := m6) (o := lo none .busy)) fun c hc => .inl (by simp at hc; simp [hc])).go h25.fwd (by simp)).go k3 fun c hc => ?_).go f28 (fun c hc => .inl (by simp at hc; simp [hc])) |>.go hsetS_frw fun c hc => .inl (by simp at hc; simp [hc])
   rcases hbx c hc with h | h
   ·exact .inl (by simp [h])
   ·exact .inr h
  have dx6 : m6 ∉ blkOf x26 := fun h => (hbx' _ h).elim q6 fun e => by
   have := h7.at; unfold objAt at this; rw [e] at this; simp at this
  have dx1 : m1 ∉ blkOf x26 := fun h => (hbx' _ h).elim q1 fun e => (((h2.own.ext h4.fwd).ext h7.fwd).there e)
  refine ⟨x26, s27, k1, k2.sl.one ⟨s28, y1, e6, rfl, ⟨x26, o1''.fwd hsetS_frw (by simpa using n16), objAt_set, by rw [objAt_ne n36]; exact e3, ?_, hbx'⟩, fall, objAt_fr e6 hfr28⟩⟩
  have hk : So callE s28 x26 (L0 ++ xs.take (i + 1)) := by
   rw [← List.take_append_getElem hi, ← List.append_assoc, at_eq hi]
   exact k2.beside f28 fun c hc => by
    have : c = m1 := by simpa using hc
    rw [this]; exact dx1
  exact hk.beside hsetS_frw fun c hc => by
   have : c = m6 := by simpa using hc
   rw [this]; exact dx6
 ·rintro i s1 s2 ⟨x, o1, o6, o3, hso, hbx⟩ f
  exact ⟨x, o1.ext f, objAt_fwd o6 f (by simp), objAt_fwd o3 f (by simp), hso.ext f, hbx⟩
end
end Go.Eng.S

namespace Go.Eng.S
open Go Go.Eng Go.Proofs
noncomputable section
def cmpI (a b : Int) : Int := if a < b then -1 else if a > b then 1 else 0
def or4 (x y z w : Int) : Int := if x ≠ 0 then x else if y ≠ 0 then y else if z ≠ 0 then z else w
def cmpCall (a b : CallR) : Int :=
 if a = b then 0 else if a.failed ≠ b.failed ∧ a.hour = b.hour ∧ a.edge = b.edge then (if b.failed = true then -1 else 1)
 else or4 (cmpI a.hour b.hour) (cmpS a.edge.1 b.edge.1) (cmpS a.edge.2 b.edge.2) (cmpI a.took b.took)
def ltCall (a b : CallR) : Prop := a.hour < b.hour ∨ (a.hour = b.hour ∧ (ssLt a.edge b.edge = true ∨ (a.edge = b.edge ∧ ((a.failed = false ∧ b.failed = true) ∨ (a.failed = b.failed ∧ a.took < b.took)))))
theorem ltCall_irrefl (a : CallR) : ¬ ltCall a a := by
 rintro (h | ⟨_, h | ⟨_, ⟨h1, h2⟩ | ⟨_, h⟩⟩⟩)
 ·omega
 ·rw [ssLt_irrefl] at h; simp at h
 ·rw [h1] at h2; simp at h2
 ·omega
theorem ltCall_trans {a b c : CallR} (h : ltCall a b) (h' : ltCall b c) : ltCall a c := by
 rcases h with h | ⟨e, h⟩
 ·rcases h' with h' | ⟨e', _⟩
  ·exact .inl (by omega)
  ·exact .inl (by omega)
 ·rcases h' with h' | ⟨e', h'⟩
  ·exact .inl (by omega)
  ·refine .inr ⟨by omega, ?_⟩
   rcases h with h | ⟨g, h⟩
   ·rcases h' with h' | ⟨g', _⟩
    ·exact .inl (ssLt_trans h h')
    ·exact .inl (by rw [← g']; exact h)
   ·rcases h' with h' | ⟨g', h'⟩
    ·exact .inl (by rw [g]; exact h')
    ·refine .inr ⟨g.trans g', ?_⟩
     rcases h with ⟨h1, h2⟩ | ⟨h1, h2⟩ <;> rcases h' with ⟨k1, k2⟩ | ⟨k1, k2⟩
     ·rw [h2] at k1; simp at k1
     ·exact .inl ⟨h1, by rw [← k1]; exact h2⟩
     ·exact .inl ⟨by rw [h1]; exact k1, k2⟩
     ·exact .inr ⟨h1.trans k1, by omega⟩
theorem ltCall_total (a b : CallR) : ltCall a b ∨ a = b ∨ ltCall b a := by
 rcases Int.lt_trichotomy a.hour b.hour with h | h | h
 ·exact .inl (.inl h)
 ·cases h1 : ssLt a.edge b.edge with
  | true => exact .inl (.inr ⟨h, .inl h1⟩)
  | false =>
   cases h2 : ssLt b.edge a.edge with
   | true => exact .inr (.inr (.inr ⟨h.symm, .inl h2⟩))
   | false =>
    have e := ssLt_total h1 h2
    rcases Int.lt_trichotomy a.took b.took with t | t | t <;> cases f1 : a.failed <;> cases f2 : b.failed
    ·exact .inl (.inr ⟨h, .inr ⟨e, .inr ⟨by rw [f1, f2], t⟩⟩⟩)
    ·exact .inl (.inr ⟨h, .inr ⟨e, .inl ⟨f1, f2⟩⟩⟩)
    ·exact .inr (.inr (.inr ⟨h.symm, .inr ⟨e.symm, .inl ⟨f2, f1⟩⟩⟩))
    ·exact .inl (.inr ⟨h, .inr ⟨e, .inr ⟨by rw [f1, f2], t⟩⟩⟩)
    ·exact .inr (.inl (by cases a; cases b; simp_all))
    ·exact .inl (.inr ⟨h, .inr ⟨e, .inl ⟨f1, f2⟩⟩⟩)
    ·exact .inr (.inr (.inr ⟨h.symm, .inr ⟨e.symm, .inl ⟨f2, f1⟩⟩⟩))
    ·exact .inr (.inl (by cases a; cases b; simp_all))
    ·exact .inr (.inr (.inr ⟨h.symm, .inr ⟨e.symm, .inr ⟨by rw [f1, f2], t⟩⟩⟩))
    ·exact .inl (.inr ⟨h, .inr ⟨e, .inl ⟨f1, f2⟩⟩⟩)
    ·exact .inr (.inr (.inr ⟨h.symm, .inr ⟨e.symm, .inl ⟨f2, f1⟩⟩⟩))
    ·exact .inr (.inr (.inr ⟨h.symm, .inr ⟨e.symm, .inr ⟨by rw [f1, f2], t⟩⟩⟩))
 ·exact .inr (.inr (.inl h))
theorem cmpI_lt (a b : Int) : cmpI a b < 0 ↔ a < b := by unfold cmpI; split <;> (try split) <;> omega
theorem cmpI_zero (a b : Int) : cmpI a b = 0 ↔ a = b := by unfold cmpI; split <;> (try split) <;> omega
theorem cmpS_ltI (a b : ByteArray) : cmpS a b < 0 ↔ sLt a b = true := by
 unfold cmpS
 split
 ·rename_i h; simp [h]
 ·rename_i h
  split <;> simp [h]
theorem cmpS_zero (a b : ByteArray) : cmpS a b = 0 ↔ a = b := by
 unfold cmpS
 split
 ·rename_i h
  refine ⟨fun h => by omega, ?_⟩
  rintro rfl
  rw [sLt_irrefl] at h; simp at h
 ·split <;> simp_all
theorem or4_lt {x y z w : Int} : or4 x y z w < 0 ↔ x < 0 ∨ (x = 0 ∧ (y < 0 ∨ (y = 0 ∧ (z < 0 ∨ (z = 0 ∧ w < 0))))) := by
 unfold or4
 split
 ·omega
 ·split
  ·omega
  ·split <;> omega
theorem or4_zero {x y z w : Int} : or4 x y z w = 0 ↔ x = 0 ∧ y = 0 ∧ z = 0 ∧ w = 0 := by
 unfold or4
 split
 ·omega
 ·split
  ·omega
  ·split <;> omega
theorem ssLt_iff (a b : SS) : ssLt a b = true ↔ sLt a.1 b.1 = true ∨ (a.1 = b.1 ∧ sLt a.2 b.2 = true) := by
 unfold ssLt
 by_cases e : a.1 = b.1
 ·rw [if_pos e, e, sLt_irrefl]; simp
 ·rw [if_neg e]; simp [e]
theorem cmpCall_lt (a b : CallR) : cmpCall a b < 0 ↔ ltCall a b := by
 unfold cmpCall
 by_cases e : a = b
 ·rw [if_pos e, e]
  exact ⟨fun h => by omega, fun h => absurd h (ltCall_irrefl b)⟩
 rw [if_neg e]
 by_cases c : a.failed ≠ b.failed ∧ a.hour = b.hour ∧ a.edge = b.edge
 ·rw [if_pos c]
  obtain ⟨c1, c2, c3⟩ := c
  have k : ltCall a b ↔ (a.failed = false ∧ b.failed = true) := by
   constructor
   ·rintro (h | ⟨_, h | ⟨_, h | ⟨h, _⟩⟩⟩)
    ·omega
    ·rw [c3, ssLt_irrefl] at h; simp at h
    ·exact h
    ·exact absurd h c1
   ·exact fun h => .inr ⟨c2, .inr ⟨c3, .inl h⟩⟩
  rw [k]
  cases f1 : a.failed <;> cases f2 : b.failed <;> simp_all
 ·rw [if_neg c, or4_lt, cmpI_lt, cmpI_zero, cmpS_ltI, cmpS_zero, cmpS_ltI, cmpS_zero, cmpI_lt]
  constructor
  ·rintro (h | ⟨h, h1 | ⟨h1, h2 | ⟨h2, h3⟩⟩⟩)
   ·exact .inl h
   ·exact .inr ⟨h, .inl ((ssLt_iff _ _).2 (.inl h1))⟩
   ·exact .inr ⟨h, .inl ((ssLt_iff _ _).2 (.inr ⟨h1, h2⟩))⟩
   ·have he : a.edge = b.edge := Prod.ext h1 h2
    have hf : a.failed = b.failed := Classical.byContradiction fun hn => c ⟨hn, h, he⟩
    exact .inr ⟨h, .inr ⟨he, .inr ⟨hf, h3⟩⟩⟩
  ·rintro (h | ⟨h, h1 | ⟨h1, ⟨k1, k2⟩ | ⟨k1, k2⟩⟩⟩)
   ·exact .inl h
   ·rcases (ssLt_iff _ _).1 h1 with h2 | ⟨h2, h3⟩
    ·exact .inr ⟨h, .inl h2⟩
    ·exact .inr ⟨h, .inr ⟨h2, .inl h3⟩⟩
   ·exact absurd ⟨by rw [k1, k2]; simp, h, h1⟩ c
   ·exact .inr ⟨h, .inr ⟨by rw [h1], .inr ⟨by rw [h1], k2⟩⟩⟩
theorem cmpCall_zero (a b : CallR) : cmpCall a b = 0 ↔ a = b := by
 constructor
 ·intro h
  unfold cmpCall at h
  by_cases e : a = b
  ·exact e
  rw [if_neg e] at h
  by_cases c : a.failed ≠ b.failed ∧ a.hour = b.hour ∧ a.edge = b.edge
  ·rw [if_pos c] at h
   split at h <;> omega
  ·rw [if_neg c, or4_zero, cmpI_zero, cmpS_zero, cmpS_zero, cmpI_zero] at h
   obtain ⟨h1, h2, h3, h4⟩ := h
   have he : a.edge = b.edge := Prod.ext h2 h3
   have hf : a.failed = b.failed := Classical.byContradiction fun hn => c ⟨hn, h1, he⟩
   cases a; cases b
   simp_all
 ·rintro rfl
  unfold cmpCall
  rw [if_pos rfl]
theorem swoCall : Sort.SWO (ltOf cmpCall) := by
 have e : ∀ x y, ltOf cmpCall x y = true ↔ ltCall x y := fun x y => by unfold ltOf; rw [decide_eq_true_iff, cmpCall_lt]
 have f : ∀ x y, ltOf cmpCall x y = false ↔ ¬ ltCall x y := fun x y => by rw [← e]; simp
 refine ⟨fun x => (f x x).2 (ltCall_irrefl x), fun x y z h1 h2 => (e x z).2 (ltCall_trans ((e x y).1 h1) ((e y z).1 h2)), fun x y z h1 h2 => (f x z).2 fun h => ?_⟩
 have h1 := (f x y).1 h1
 have h2 := (f y z).1 h2
 rcases ltCall_total x y with g | g | g
 ·exact h1 g
 ·rw [g] at h; exact h2 h
 ·exact h2 (ltCall_trans g h)
end
end Go.Eng.S

namespace Go.Eng.S
open Go Go.Eng Go.Proofs
set_option linter.constructorNameAsVariable false
noncomputable section
attribute [local irreducible] bsel
theorem isNaNS_ok (a : ByteArray) (s : St) : CallsD P F.cmp_isNaN_string [.str a] s fun v s' => v = .bool false ∧ s' = s := by
 refine CallsD.pure (fun s => (vc.cmp_isNaN_string_ok ?_).a) rfl s
 show AV.bool (!(bytesEq a.data.toList a.data.toList)) = .bool false
 rw [sEq_eq]; simp
theorem CompareS_ok (a b : ByteArray) (s : St) : CallsD P F.cmp_Compare_string [.str a, .str b] s fun v s' => v = .int .i64 (cmpS a b) ∧ s' = s := by
 refine CallsD.pure (fun s => (vc.cmp_Compare_string_ok ((isNaNS_ok a s).mono ?_)).a) rfl s
 rintro _ _ ⟨rfl, rfl⟩
 refine ⟨false, rfl, (isNaNS_ok b _).mono ?_⟩
 rintro _ _ ⟨rfl, rfl⟩
 refine ⟨false, rfl, bsel_of (fun c => by simp at c) fun _ => bsel_of (fun c => by simp at c) fun _ => bsel_of (fun c => ?_) fun c => bsel_of (fun c' => ?_) fun c' => ?_⟩
 ·have c : sLt a b = true := c
  unfold cmpS; rw [if_pos c]
 ·have c : ¬ sLt a b = true := by unfold sLt; simp [c]
  have : ¬ a = b := by
   rintro rfl
   rw [sEq_eq] at c'
   simp at c'
  unfold cmpS; rw [if_neg c, if_neg this]
 ·have c0 : ¬ sLt a b = true := by unfold sLt; simp [c]
  have : a = b := by
   rw [c, sEq_eq] at c'
   simpa using c'
  unfold cmpS; rw [if_neg c0, if_pos this]
theorem isNaNI_ok (a : Int) (s : St) : CallsD P F.cmp_isNaN_int64 [.int .i64 a] s fun v s' => v = .bool false ∧ s' = s := by
 refine CallsD.pure (fun s => (vc.cmp_isNaN_int64_ok ?_).a) rfl s
 show AV.bool (a != a) = .bool false
 simp
theorem CompareI_ok (a b : Int) (s : St) : CallsD P F.cmp_Compare_int64 [.int .i64 a, .int .i64 b] s fun v s' => v = .int .i64 (cmpI a b) ∧ s' = s := by
 refine CallsD.pure (fun s => (vc.cmp_Compare_int64_ok ((isNaNI_ok a s).mono ?_)).a) rfl s
 rintro _ _ ⟨rfl, rfl⟩
 refine ⟨false, rfl, (isNaNI_ok b _).mono ?_⟩
 rintro _ _ ⟨rfl, rfl⟩
 refine ⟨false, rfl, bsel_of (fun c => by simp at c) fun _ => bsel_of (fun c => by simp at c) fun _ => bsel_of (fun c => ?_) fun c => bsel_of (fun c' => ?_) fun c' => ?_⟩
 ·have c : a < b := by simpa using c
  unfold cmpI; rw [if_pos c]
 ·have c : ¬ a < b := by simpa using c
  have c' : a > b := by simpa using c'
  unfold cmpI; rw [if_neg c, if_pos c']
 ·have c : ¬ a < b := by simpa using c
  have c' : ¬ a > b := by simpa using c'
  unfold cmpI; rw [if_neg c, if_neg c']
theorem isNaNU_ok (a : Int) (s : St) : CallsD P F.cmp_isNaN_uint64 [.int .u64 a] s fun v s' => v = .bool false ∧ s' = s := by
 refine CallsD.pure (fun s => (vc.cmp_isNaN_uint64_ok ?_).a) rfl s
 show AV.bool (a != a) = .bool false
 simp
theorem CompareU_ok (a b : Int) (s : St) : CallsD P F.cmp_Compare_uint64 [.int .u64 a, .int .u64 b] s fun v s' => v = .int .i64 (cmpI a b) ∧ s' = s := by
 refine CallsD.pure (fun s => (vc.cmp_Compare_uint64_ok ((isNaNU_ok a s).mono ?_)).a) rfl s
 rintro _ _ ⟨rfl, rfl⟩
 refine ⟨false, rfl, (isNaNU_ok b _).mono ?_⟩
 rintro _ _ ⟨rfl, rfl⟩
 refine ⟨false, rfl, bsel_of (fun c => by simp at c) fun _ => bsel_of (fun c => by simp at c) fun _ => bsel_of (fun c => ?_) fun c => bsel_of (fun c' => ?_) fun c' => ?_⟩
 ·have c : a < b := by simpa using c
  unfold cmpI; rw [if_pos c]
 ·have c : ¬ a < b := by simpa using c
  have c' : a > b := by simpa using c'
  unfold cmpI; rw [if_neg c, if_pos c']
 ·have c : ¬ a < b := by simpa using c
  have c' : ¬ a > b := by simpa using c'
  unfold cmpI; rw [if_neg c, if_neg c']
def fst0 : List Int → Int
 | [] => 0
 | x :: r => if x ≠ 0 then x else fst0 r
theorem OrL_ok {s : St} {b : Nat} {xs : List Int} {n : Nat} (hn : xs.length = n) (h : Own s b (xs.map fun x => .int .i64 x)) (hsz : n < 1000) : CallsD P F.cmp_Or_int [.slice b 0 n (.exact n)] s fun v s' => v = .int .i64 (fst0 xs) ∧ s' = s := by
 subst hn
 refine vc.cmp_Or_int_ok ?_
 show ∃ I : Int → St → Nat → Prop, _
 refine ⟨fun n s5 m => s5 = s ∧ ∃ i : Nat, n = i ∧ m = xs.length - i ∧ i ≤ xs.length ∧ fst0 xs = fst0 (xs.drop i), ⟨_, rfl, 0, rfl, rfl, by omega, rfl⟩, ?_⟩
 rintro _ s5 m ⟨rfl, i, rfl, rfl, hi, he⟩
 refine bsel_of (fun c => ?_) fun c => ?_
 ·have c : i < xs.length := by simpa using c
  refine ⟨by omega, by omega, ?_⟩
  have r : Eng.ld1 s5 (.ptr b i) = some (.int .i64 xs[i]) := h.ld1 i (by simp [c])
  rw [mulS_eq]
  rw [show 0 + (i : Int).toNat * 1 = i by simp]
  rw [List.drop_eq_getElem_cons c] at he
  refine ⟨_, r, bsel_of (fun c1 => ?_) fun c1 => ?_⟩
  ·have c1 : xs[i] ≠ 0 := by simpa using c1
   exact ⟨by rw [he, fst0, if_pos c1], rfl⟩
  ·have c1 : xs[i] = 0 := by simpa using c1
   exact ⟨xs.length - (i + 1), by omega, rfl, i + 1, by rw [wrap_i64 (by omega) (by omega)]; rfl, rfl, by omega, by rw [he, fst0, if_neg (by simpa using c1)]⟩
 ·have c : i = xs.length := by simp at c; omega
  subst c
  rw [List.drop_length] at he
  exact ⟨by rw [he]; rfl, rfl⟩
set_option maxHeartbeats 1000000 in
theorem order_ok (a b : CallR) (s : St) : CallsD P F.calls_order [.agg (callF a), .agg (callF b)] s fun v s' => v = .int .i64 (cmpCall a b) ∧ s' = s := by
 refine CallsD.pure (fun s => (vc.calls_order_ok ?_).a) rfl s
 intro m1 s2 h2 m3 s4 h4
 have o1 := h2.own.ext h4.fwd
 have o3 := h4.own
 have hd : ∀ c : Prop, (a = b) = c → True := fun _ _ => trivial
 refine ⟨_, _, _, _, _, o1.all rfl, _, _, _, _, _, o3.all rfl, bsel_of (fun c => ?_) fun c => ⟨_, o1.ld1 3 rfl, _, o3.ld1 3 rfl, bsel_of (fun c1 => ⟨_, o1.ld1 0 rfl, _, o3.ld1 0 rfl, bsel_of (fun c2 => ⟨_, _, o1.ldN 1 2 (by simp), _, _, o3.ldN 1 2 (by simp), bsel_of (fun c3 => ?_) fun c3 => ?_⟩) fun c2 => ?_⟩) fun c1 => ?_⟩⟩
 ·have : a = b := by
   rw [if_pos rfl, sEq_eq, sEq_eq] at c
   obtain ⟨a1, ⟨a2, a3⟩, a4, a5⟩ := a
   obtain ⟨b1, ⟨b2, b3⟩, b4, b5⟩ := b
   simp at c
   simp [c]
  show AV.int .i64 0 = _
  rw [cmpCall, if_pos this]
 all_goals
  have hne : ¬ a = b := by
   rintro rfl
   rw [if_pos rfl, sEq_eq, sEq_eq] at c
   simp at c
 ·have c1 : a.failed ≠ b.failed := by simpa using c1
  have c2 : a.hour = b.hour := by simpa using c2
  have c3 : a.edge = b.edge := by
   rw [if_pos rfl, sEq_eq, sEq_eq] at c3
   simp at c3
   exact Prod.ext c3.1 c3.2
  refine ⟨_, o3.ld1 3 rfl, bsel_of (fun c4 => ?_) fun c4 => ?_⟩
  ·show AV.int .i64 (-1) = _
   rw [cmpCall, if_neg hne, if_pos ⟨c1, c2, c3⟩, if_pos c4]
  ·show AV.int .i64 1 = _
   rw [cmpCall, if_neg hne, if_pos ⟨c1, c2, c3⟩, if_neg (by simp [c4])]
 all_goals
  have hk : cmpCall a b = fst0 [cmpI a.hour b.hour, cmpS a.edge.1 b.edge.1, cmpS a.edge.2 b.edge.2, cmpI a.took b.took] := by
   have hn : ¬ (a.failed ≠ b.failed ∧ a.hour = b.hour ∧ a.edge = b.edge) := by
    rintro ⟨k1, k2, k3⟩
    first
     | (rw [if_pos rfl, sEq_eq, sEq_eq, k3] at c3; simp at c3; done)
     | (rw [k2] at c2; simp at c2; done)
     | (simp [k1] at c1; done)
   rw [cmpCall, if_neg hne, if_neg hn, or4]
   simp only [fst0]
   by_cases w : cmpI a.took b.took = 0
   ·rw [if_neg (c := cmpI a.took b.took ≠ 0) (by simpa using w), w]
   ·rw [if_pos (c := cmpI a.took b.took ≠ 0) w]
  clear c
  intro s24 hB
  have p1 := o1.ext hB.fwd
  have p3 := o3.ext hB.fwd
  refine ⟨_, p1.ld1 0 rfl, _, p3.ld1 0 rfl, (CompareI_ok _ _ s24).mono ?_⟩
  rintro _ _ ⟨rfl, rfl⟩
  refine ⟨_, rfl, _, p1.ld1 1 rfl, p1.ld1 1 rfl, _, p3.ld1 1 rfl, p3.ld1 1 rfl, (CompareS_ok _ _ _).mono ?_⟩
  rintro _ _ ⟨rfl, rfl⟩
  refine ⟨_, rfl, _, p1.ld1 2 rfl, p1.ld1 2 rfl, p1.ld1 2 rfl, _, p3.ld1 2 rfl, p3.ld1 2 rfl, p3.ld1 2 rfl, (CompareS_ok _ _ _).mono ?_⟩
  rintro _ _ ⟨rfl, rfl⟩
  refine ⟨_, rfl, _, p1.ld1 4 rfl, p1.ld1 4 rfl, p1.ld1 4 rfl, p1.ld1 4 rfl, _, p3.ld1 4 rfl, p3.ld1 4 rfl, p3.ld1 4 rfl, p3.ld1 4 rfl, (CompareU_ok _ _ _).mono ?_⟩
  rintro _ _ ⟨rfl, rfl⟩
  refine ⟨_, rfl, (OrL_ok (xs := [cmpI a.hour b.hour, cmpS a.edge.1 b.edge.1, cmpS a.edge.2 b.edge.2, cmpI a.took b.took]) (n := 4) rfl hsetS_own (by decide)).mono ?_⟩
  rintro _ _ ⟨rfl, rfl⟩
  exact ⟨_, rfl, by rw [hk]⟩
theorem Sort_ok {s : St} {x : AV} {l : List CallR} (hx : So callE s x l) (hsz : l.length < 4611686018427387904) (hfr : Fr s) :
  CallsA P F.slices_SortFunc_sl_api_Call_api_Call [x, .func F.calls_order [] []] s fun v s' => v = .tuple [] ∧ ∃ l', l'.Perm l ∧ l'.Pairwise (fun y z => 0 ≤ cmpCall z y) ∧ So callE s' x l' ∧ Frw (blkOf x) s s' ∧ Fr s' := by
 rcases hx with ⟨rfl, h2⟩ | ⟨b, k, n, c, rfl, g1, g2, g3⟩
 ·have hl : l = [] := by
   cases l with
   | nil => rfl
   | cons a r => simp [callE, callF] at h2
  subst hl
  refine (CallsA.sort0 Tryz.sortC (x := .nilslice) rfl).mono ?_
  rintro v s' ⟨rfl, rfl⟩
  exact ⟨rfl, [], .refl _, by simp, .nil _ _, .refl _ _, hfr⟩
 ·have hn : l.length = n := by
   rw [callE.flat_len] at g1
   exact Nat.eq_of_mul_eq_mul_right (by decide) g1
  cases n with
  | zero =>
   have hl : l = [] := List.length_eq_zero_iff.1 hn
   subst hl
   refine (CallsA.sort0 Tryz.sortC (x := .slice b 0 0 (.var k 0)) rfl).mono ?_
   rintro v s' ⟨rfl, rfl⟩
   exact ⟨rfl, [], .refl _, by simp, .inr ⟨b, k, 0, c, rfl, g1, g2, g3⟩, .refl _ _, hfr⟩
  | succ n =>
   have hsort := CallsA.sortK hD Tryz.sortC callE (fun w => by exact run_agg hD ty.api_Call w) (fun w => by exact run_size hD ty.api_Call w) (fun _ => rfl) (fun _ => True) cmpCall swoCall (g := F.calls_order) (fi := fnI Tryz.f48) (by kernel_rfl) (caps := []) (s := s) (b := b) (o := 0) (n := n + 1) (cap := .var k 0) g2 rfl (l := l) hn (Nat.le_of_eq (by simp [callE])) g3 (by omega) (by omega) (fun _ _ => trivial)
    (fun s0 _ x y _ _ => (order_ok x y s0).a.mono fun _ _ h => h.1)
   refine hsort.mono ?_
   rintro v s' ⟨rfl, l3, p1, p2, rfl⟩
   have hlen : l3.length = n + 1 := by rw [p1.length_eq, hn]
   refine ⟨rfl, l3, p1, p2, .inr ⟨b, k, n + 1, _, rfl, by rw [callE.flat_len, hlen], by simp only [PT.get_set_same]; rfl, ?_⟩, ⟨fun d o hd ho => ?_, Nat.le_refl _, rfl⟩, fun d hd => ?_⟩
   ·refine getAll_of (by rw [callE.flat_len, hlen]) fun i hi => ?_
    have : (l3.flatMap callE.f).length = (n + 1) * callE.z := by rw [callE.flat_len, hlen]
    rw [PT.get_setAll, if_pos (by omega)]
    simp
   ·have : d ≠ b := by simpa [blkOf] using hd
    simp only [PT.get_set]; rw [if_neg this]; exact ho
   ·have hd : s.nx ≤ d := hd
    have : d ≠ b := by rintro rfl; rw [hfr d hd] at g2; simp at g2
    simp only [PT.get_set]; rw [if_neg this]; exact hfr d hd
end
end Go.Eng.S

namespace Go.Eng.S
open Go Go.Eng Go.Proofs
set_option linter.constructorNameAsVariable false
set_option maxRecDepth 4000
noncomputable section
attribute [local irreducible] bsel
theorem SortedFunc_ok {s : St} {f : AV} {xs : List CallR} {B : List Nat} (hs : SeqA P D B s f xs.length fun i => [.agg (callF (at' xs i))]) (hB2 : ∀ c, c ∈ B → s.h.get c ≠ none) (hlen : (xs.length + 1 + (xs.length + 1) / 4 + 600) * 56 ≤ pow48) :
  CallsA P F.slices_SortedFunc_api_Call [f, .func F.calls_order [] []] s fun v s' => ∃ l', l'.Perm xs ∧ l'.Pairwise (fun y z => 0 ≤ cmpCall z y) ∧ So callE s' v l' ∧ (∀ c, c ∈ blkOf v → s.h.get c = none) ∧ Frw [] s s' ∧ Fr s' := by
 refine vc.slices_SortedFunc_api_Call_ok (vc.slices_Collect_api_Call_ok ((AppendSeq_ok (L0 := []) (.nil _ _) hs (by simp [blkOf]) hB2 (by simpa using hlen)).mono ?_))
 rintro v s2 ⟨h1, h2, h3, h4⟩
 rw [List.nil_append] at h1
 refine ⟨v, rfl, v, rfl, (Sort_ok h1 (by unfold pow48 at hlen; omega) h4).mono ?_⟩
 rintro _ s5 ⟨rfl, l', q1, q2, q3, q4, q5⟩
 have hnew : ∀ c, c ∈ blkOf v → s.h.get c = none := fun c hc => (h2 c hc).resolve_left (by simp [blkOf])
 exact ⟨rfl, l', q1, q2, q3, hnew, h3.step q4 hnew, q5⟩
def VarS (x : AV) : Prop := slZero x = true ∨ ∃ b o n k t, x = .slice b o n (.var k t)
theorem _root_.Go.Eng.So.varS {α : Type} {E : Enc α} {s : St} {x : AV} {l : List α} (h : So E s x l) : VarS x := by
 rcases h with ⟨rfl, _⟩ | ⟨b, k, n, c, rfl, _⟩
 ·exact .inl rfl
 ·exact .inr ⟨_, _, _, _, _, rfl⟩
theorem tailV {s : St} {x : AV} {l : List CallR} (h : Sl callE s x l) (hv : VarS x) (hl : 0 < l.length) : ∃ y, sliceV 5 x (some (.int .i64 1)) none none = some y ∧ Sl callE s y (l.drop 1) ∧ VarS y ∧ ∀ c, c ∈ blkOf y → c ∈ blkOf x := by
 have hlen := h.len
 rcases hv with hz | ⟨b, o, n, k, t, rfl⟩
 ·rw [slZero_len hz] at hlen
  simp only [Option.some.injEq] at hlen
  omega
 ·have hn : n = l.length := by simpa [slLen] using hlen
  rcases h with ⟨q1, _⟩ | ⟨b', o', n', cap', q1, q2, d, N, tl, g1, g2, g3⟩
  ·simp [slZero] at q1
  simp only [AV.slice.injEq] at q1
  obtain ⟨rfl, rfl, rfl, rfl⟩ := q1
  have e1 : sliceV 5 (.slice b o n (.var k t)) (some (.int .i64 1)) none none = sliceVar 5 b o n k t 1 n := by
   simp [sliceV, optInt, sliceSl]
  rw [e1]
  unfold sliceVar
  rw [if_pos (by simp [Nat.ble_eq]; omega)]
  have hz : (l.flatMap callE.f).length = l.length * 5 := callE.flat_len l
  cases hb : Nat.blt 1 n with
  | true =>
   simp only
   refine ⟨_, rfl, .inr ⟨b, o + 1 * 5, n - 1, .var k (t + 1), rfl, by rw [callE.flat_len, List.length_drop, hn], d, N, tl, g1, ?_, ?_⟩, .inr ⟨_, _, _, _, _, rfl⟩, by simp [blkOf]⟩
   ·rw [callE.flat_len, List.length_drop]
    rw [hz] at g2
    show o + 1 * 5 + (l.length - 1) * 5 ≤ N
    omega
   ·have := getAll_part g3 (1 * 5) ((l.length - 1) * 5) (by rw [hz]; omega)
    rw [List.take_of_length_le (by rw [List.length_drop, hz]; omega)] at this
    have e2 : ((l.drop 1).flatMap callE.f).length = (l.length - 1) * 5 := by rw [callE.flat_len, List.length_drop]; rfl
    rw [e2, callE.flat_drop (k := 1) (by omega)]
    exact this
  | false =>
   have h0 : n ≤ 1 := by
    have : ¬ (Nat.blt 1 n = true) := by rw [hb]; simp
    rw [Nat.blt_eq] at this; omega
   simp only
   refine ⟨_, rfl, ?_, .inl rfl, by simp [blkOf]⟩
   rw [List.drop_eq_nil_of_le (by omega)]
   exact .inl ⟨rfl, rfl⟩
theorem sort_unique {l l' : List CallR} (hp : l.Perm l') (h : l.Pairwise fun y z => 0 ≤ cmpCall z y) (h' : l'.Pairwise fun y z => 0 ≤ cmpCall z y) : l = l' := by
 refine hp.eq_of_pairwise (le := fun y z => 0 ≤ cmpCall z y) (fun a b _ _ h1 h2 => ?_) h h'
 rcases ltCall_total a b with g | g | g
 ·have := (cmpCall_lt a b).2 g; omega
 ·exact g
 ·have := (cmpCall_lt b a).2 g; omega
structure DelI (a b A B G C : List CallR) : Prop where
 perm : ∃ K, a.Perm (K ++ G ++ A) ∧ b.Perm (K ++ C ++ B)
 same : a = b → G = [] ∧ C = [] ∧ A = B
theorem perm_snoc {a K G A : List CallR} {x : CallR} (h : a.Perm (K ++ G ++ x :: A)) : a.Perm (K ++ (G ++ [x]) ++ A) := by
 refine h.trans (.of_eq ?_)
 simp
theorem perm_both {a K G A : List CallR} {x : CallR} (h : a.Perm (K ++ G ++ x :: A)) : a.Perm (x :: K ++ G ++ A) := by
 refine h.trans ?_
 rw [List.cons_append, List.cons_append]
 exact List.perm_middle
theorem DelI.gone {a b A B G C : List CallR} {x : CallR} (h : DelI a b (x :: A) B G C) (hn : x :: A ≠ B) : DelI a b A B (G ++ [x]) C := by
 obtain ⟨⟨K, h1, h2⟩, h3⟩ := h
 exact ⟨⟨K, perm_snoc h1, h2⟩, fun e => absurd (h3 e).2.2 hn⟩
theorem DelI.come {a b A B G C : List CallR} {x : CallR} (h : DelI a b A (x :: B) G C) (hn : A ≠ x :: B) : DelI a b A B G (C ++ [x]) := by
 obtain ⟨⟨K, h1, h2⟩, h3⟩ := h
 exact ⟨⟨K, h1, perm_snoc h2⟩, fun e => absurd (h3 e).2.2 hn⟩
theorem DelI.both {a b A B G C : List CallR} {x : CallR} (h : DelI a b (x :: A) (x :: B) G C) : DelI a b A B G C := by
 obtain ⟨⟨K, h1, h2⟩, h3⟩ := h
 exact ⟨⟨x :: K, perm_both h1, perm_both h2⟩, fun e => by
  obtain ⟨k1, k2, k3⟩ := h3 e
  exact ⟨k1, k2, by simpa using k3⟩⟩
end
end Go.Eng.S

namespace Go.Eng.S
open Go Go.Eng Go.Proofs
set_option linter.constructorNameAsVariable false
set_option maxRecDepth 4000
noncomputable section
attribute [local irreducible] bsel
theorem app_ok {s s1 : St} {x : AV} {G : List CallR} {a : CallR} {m : Nat} (hx : So callE s x G) (hN : NewO s (cellsO (callF a)) m s1) (hlen : (G.length + 1 + (G.length + 1) / 4 + 600) * 56 ≤ pow48) :
  ∃ x' s', appendX D s1 T.sl_api_Call T.sl_api_Call x (.slice m 0 1 (.exact 1)) = some (x', s') ∧ So callE s' x' (G ++ [a]) ∧ (∀ c, c ∈ blkOf x' → s.h.get c = none) ∧ Frw (blkOf x) s s' ∧ Fr s' := by
 obtain ⟨x', s', q1, q2, q3, q4, q5, q6⟩ := So.append' (a := a) (hx.ext hN.fwd) ty.sl_api_Call rfl ty.api_Call rfl rfl rfl rfl hN.own.rd rfl hlen (by unfold pow48 at hlen ⊢; omega) hN.fr
 refine ⟨x', s', q1, q2, fun c hc => ?_, (hN.fwd.mono (by simp)).trans q3, q5⟩
 rw [q4] at hc
 have hc : c = s1.nx := by simpa using hc
 rw [hc]
 exact hN.fwd.none (hN.fr _ (Nat.le_refl _)) (by simp)
def Apart (x y : AV) : Prop := ∀ c, c ∈ blkOf x → c ∉ blkOf y
theorem sl_there {s : St} {x : AV} {l : List CallR} (h : Sl callE s x l) : ∀ c, c ∈ blkOf x → s.h.get c ≠ none := by
 rcases h with ⟨h1, _⟩ | ⟨b, o, n, cap, rfl, _, h3⟩
 ·intro c hc
  cases x <;> simp [slZero, blkOf] at h1 hc
 ·intro c hc
  have : c = b := by simpa [blkOf] using hc
  rw [this]; exact h3.there
structure DI (s0 : St) (xa xb : AV) (la lb : List CallR) (x15 x16 x17 x18 : AV) (s : St) (A B G C : List CallR) : Prop where
 a : Sl callE s x15 A
 av : VarS x15
 ab : ∀ c, c ∈ blkOf x15 → s0.h.get c ≠ none
 b : Sl callE s x16 B
 bv : VarS x16
 bb : ∀ c, c ∈ blkOf x16 → s0.h.get c ≠ none
 g : So callE s x17 G
 gb : ∀ c, c ∈ blkOf x17 → s0.h.get c = none
 c : So callE s x18 C
 cb : ∀ c, c ∈ blkOf x18 → s0.h.get c = none
 ap : Apart x17 x18
 d : DelI la lb A B G C
 f : Frw [] s0 s
 fr : Fr s
variable {s0 s s1 : St} {xa xb x15 x16 x17 x18 : AV} {la lb A B G C : List CallR} {a b : CallR} {m : Nat}
theorem DI.ext (h : DI s0 xa xb la lb x15 x16 x17 x18 s A B G C) (hf : Frw [] s s1) (hfr : Fr s1) : DI s0 xa xb la lb x15 x16 x17 x18 s1 A B G C :=
 ⟨h.a.ext hf, h.av, h.ab, h.b.ext hf, h.bv, h.bb, h.g.ext hf, h.gb, h.c.ext hf, h.cb, h.ap, h.d, h.f.trans hf, hfr⟩
theorem DI.gone (h : DI s0 xa xb la lb x15 x16 x17 x18 s (a :: A) B G C) (hn : a :: A ≠ B) (hN : NewO s (cellsO (callF a)) m s1) (hlen : (la.length + 1 + (la.length + 1) / 4 + 600) * 56 ≤ pow48) :
  ∃ x' s', appendX D s1 T.sl_api_Call T.sl_api_Call x17 (.slice m 0 1 (.exact 1)) = some (x', s') ∧ ∃ y, sliceV 5 x15 (some (.int .i64 1)) none none = some y ∧ DI s0 xa xb la lb y x16 x' x18 s' A B (G ++ [a]) C := by
 have hG : G.length ≤ la.length := by
  obtain ⟨K, h1, _⟩ := h.d.perm
  have := h1.length_eq
  simp at this; omega
 obtain ⟨x', s', q1, q2, q3, q4, q5⟩ := app_ok h.g hN (Nat.le_trans (Nat.mul_le_mul_right 56 (by omega)) hlen)
 obtain ⟨y, k1, k2, k3, k4⟩ := tailV h.a h.av (by simp)
 refine ⟨x', s', q1, y, k1, ?_, k3, fun c hc => h.ab c (k4 c hc), h.b.beside q4 (fun c hc => .inr fun hx => h.bb c hx (h.gb c hc)), h.bv, h.bb, q2, fun c hc => h.f.none (q3 c hc) (by simp), h.c.beside q4 (fun c hc hx => h.ap c hc hx), h.cb, fun c hc hx => h.c.there c hx (q3 c hc), h.d.gone hn, h.f.step q4 h.gb, q5⟩
 exact k2.beside q4 fun c hc => .inr fun hx => h.ab c (k4 c hx) (h.gb c hc)
theorem DI.come (h : DI s0 xa xb la lb x15 x16 x17 x18 s A (b :: B) G C) (hn : A ≠ b :: B) (hN : NewO s (cellsO (callF b)) m s1) (hlen : (lb.length + 1 + (lb.length + 1) / 4 + 600) * 56 ≤ pow48) :
  ∃ x' s', appendX D s1 T.sl_api_Call T.sl_api_Call x18 (.slice m 0 1 (.exact 1)) = some (x', s') ∧ ∃ y, sliceV 5 x16 (some (.int .i64 1)) none none = some y ∧ DI s0 xa xb la lb x15 y x17 x' s' A B G (C ++ [b]) := by
 have hG : C.length ≤ lb.length := by
  obtain ⟨K, _, h1⟩ := h.d.perm
  have := h1.length_eq
  simp at this; omega
 obtain ⟨x', s', q1, q2, q3, q4, q5⟩ := app_ok h.c hN (Nat.le_trans (Nat.mul_le_mul_right 56 (by omega)) hlen)
 obtain ⟨y, k1, k2, k3, k4⟩ := tailV h.b h.bv (by simp)
 refine ⟨x', s', q1, y, k1, h.a.beside q4 (fun c hc => .inr fun hx => h.ab c hx (h.cb c hc)), h.av, h.ab, ?_, k3, fun c hc => h.bb c (k4 c hc), h.g.beside q4 (fun c hc hx => h.ap c hx hc), h.gb, q2, fun c hc => h.f.none (q3 c hc) (by simp), fun c hc hx => h.g.there c hc (q3 c hx), h.d.come hn, h.f.step q4 h.cb, q5⟩
 exact k2.beside q4 fun c hc => .inr fun hx => h.bb c (k4 c hx) (h.cb c hc)
set_option maxHeartbeats 1000000 in
theorem Delta_ok {x y : AV} (hx : Sl callE s x A) (hy : Sl callE s y B) (hA : (A.length + 1 + (A.length + 1) / 4 + 600) * 56 ≤ pow48) (hB : (B.length + 1 + (B.length + 1) / 4 + 600) * 56 ≤ pow48) :
  CallsA P F.calls_Delta [x, y] s fun v s' => ∃ g c G C, v = .tuple [g, c] ∧ Sl callE s' g G ∧ Sl callE s' c C ∧ (∀ d, d ∈ blkOf g ∨ d ∈ blkOf c → s.h.get d = none) ∧ (∃ K, A.Perm (K ++ G) ∧ B.Perm (K ++ C)) ∧ (A.Perm B → G = [] ∧ C = []) ∧ Frw [] s s' ∧ Fr s' := by
 have hA' : A.length < 4611686018427387904 := by unfold pow48 at hA; omega
 have hB' : B.length < 4611686018427387904 := by unfold pow48 at hB; omega
 refine vc.calls_Delta_ok ((Values_ok hx).a.mono ?_)
 rintro _ s2 ⟨⟨m2, rfl, o2, g2, f2⟩, hfr2⟩
 refine ⟨_, rfl, (SortedFunc_ok (Values_seq (hx.ext f2) o2 hA') (fun c hc => ?_) hA).mono ?_⟩
 ·rcases List.mem_cons.1 hc with rfl | hc
  ·exact o2.there
  ·exact sl_there (hx.ext f2) c hc
 rintro xa s5 ⟨la, pa, sa, soa, na, f5, hfr5⟩
 have hy5 := hy.ext (f2.trans f5)
 refine ⟨xa, rfl, (Values_ok hy5).a.mono ?_⟩
 rintro _ s8 ⟨⟨m8, rfl, o8, g8, f8⟩, hfr8⟩
 refine ⟨_, rfl, (SortedFunc_ok (Values_seq (hy5.ext f8) o8 hB') (fun c hc => ?_) hB).mono ?_⟩
 ·rcases List.mem_cons.1 hc with rfl | hc
  ·exact o8.there
  ·exact sl_there (hy5.ext f8) c hc
 rintro xb s11 ⟨lb, pb, sb, sob, nb, f11, hfr11⟩
 have soa11 := soa.ext (f8.trans f11)
 have hla : (la.length + 1 + (la.length + 1) / 4 + 600) * 56 ≤ pow48 := by rw [pa.length_eq]; exact hA
 have hlb : (lb.length + 1 + (lb.length + 1) / 4 + 600) * 56 ≤ pow48 := by rw [pb.length_eq]; exact hB
 have hsame : A.Perm B → la = lb := fun h => sort_unique ((pa.trans h).trans pb.symm) sa sb
 have f011 := ((f2.trans f5).trans f8).trans f11
 refine ⟨xb, rfl, fun x15 x16 x17 x18 s19 m => ∃ A' B' G C, m = A'.length + B'.length ∧ DI s11 xa xb la lb x15 x16 x17 x18 s19 A' B' G C, ⟨_, la, lb, [], [], rfl, soa11.sl, soa11.varS, fun c hc => soa11.there c hc, sob.sl, sob.varS, fun c hc => sob.there c hc, .nil _ _, by simp [blkOf], .nil _ _, by simp [blkOf], by intro c hc; simp [blkOf] at hc, ⟨⟨[], by simp, by simp⟩, fun e => ⟨rfl, rfl, e⟩⟩, .refl _ _, hfr11⟩, ?_⟩
 rintro x15 x16 x17 x18 s19 m20 ⟨A', B', G, C, hm, h⟩
 have ix : ∀ {s : St} {z : AV} {q : CallR} {Z : List CallR} {R : Int → ByteArray → ByteArray → Bool → Int → Prop}, Sl callE s z (q :: Z) → R q.hour q.edge.1 q.edge.2 q.failed q.took →
   ixsK 5 z 0 fun b o => ∃ n t u c w, ldN s (.ptr b o) 5 = some [.int .i64 n, .str t, .str u, .bool c, .int .u64 w] ∧ R n t u c w := fun hz hR =>
  hz.ixs rfl (k := 0) rfl (by simp) fun b o hr => ⟨_, _, _, _, _, hr.all rfl, hR⟩
 have tk : ∀ {z u : AV} {K : AV → Prop}, sliceV 5 z (some (.int .i64 1)) none none = some u → K u → optK (sliceV 5 z (some (.int .i64 1)) none none) K := fun hz hK => by rw [hz]; exact hK
 have hend : A' = [] → B' = [] → ∃ g c G C, (AV.tuple [x17, x18]) = .tuple [g, c] ∧ Sl callE s19 g G ∧ Sl callE s19 c C ∧ (∀ d, d ∈ blkOf g ∨ d ∈ blkOf c → s.h.get d = none) ∧ (∃ K, A.Perm (K ++ G) ∧ B.Perm (K ++ C)) ∧ (A.Perm B → G = [] ∧ C = []) ∧ Frw [] s s19 ∧ Fr s19 := by
  rintro rfl rfl
  obtain ⟨K, k1, k2⟩ := h.d.perm
  rw [List.append_nil] at k1 k2
  exact ⟨x17, x18, G, C, rfl, h.g.sl, h.c.sl, fun d hd => f011.none (hd.elim (h.gb d) (h.cb d)) (by simp), ⟨K, pa.symm.trans k1, pb.symm.trans k2⟩, fun e => ⟨(h.d.same (hsame e)).1, (h.d.same (hsame e)).2.1⟩, f011.trans h.f, h.fr⟩
 have mono : ∀ {A' B' G C : List CallR} {z1 z2 z3 z4 : AV} {s' : St}, DI s11 xa xb la lb z1 z2 z3 z4 s' A' B' G C → A'.length + B'.length < m20 → ∃ m', m' < m20 ∧ ∃ A' B' G C, m' = A'.length + B'.length ∧ DI s11 xa xb la lb z1 z2 z3 z4 s' A' B' G C := fun h hl => ⟨_, hl, _, _, _, _, rfl, h⟩
 cases A' with
 | nil =>
  cases B' with
  | nil =>
   refine h.a.slen (bsel_of (fun c => by simp at c <;> omega) fun _ => h.b.slen (bsel_of (fun c => by simp at c <;> omega) fun _ => hend rfl rfl))
  | cons b B' =>
   refine h.a.slen (bsel_of (fun c => by simp at c <;> omega) fun _ => h.b.slen (bsel_of (fun _ => h.a.slen (bsel_of (fun _ => ix h.b ?_) fun c => by simp at c <;> omega)) fun c => by simp at c <;> omega))
   intro m138 s139 hN
   obtain ⟨x', s', q1, u, q2, q3⟩ := h.come (by simp) hN hlb
   exact ⟨x', s', q1, tk q2 (mono q3 (by simp at hm ⊢; omega))⟩
 | cons a A' =>
  refine h.a.slen (bsel_of (fun _ => h.a.slen (bsel_of (fun c => by simp at c <;> omega) fun _ => ?_)) fun c => by simp at c <;> omega)
  cases B' with
  | nil =>
   refine h.b.slen (bsel_of (fun _ => ix h.a ?_) fun c => by simp at c <;> omega)
   intro m44 s45 hN
   obtain ⟨x', s', q1, u, q2, q3⟩ := h.gone (by simp) hN hla
   exact ⟨x', s', q1, tk q2 (mono q3 (by simp at hm ⊢; omega))⟩
  | cons b B' =>
   refine h.b.slen (bsel_of (fun c => by simp at c <;> omega) fun _ => ?_)
   intro s50 hBu
   have h5 := h.ext hBu.fwd hBu.fr
   refine ix h5.a (ix h5.b ((order_ok a b s50).mono ?_))
   rintro _ _ ⟨rfl, rfl⟩
   refine ⟨_, rfl, bsel_of (fun c => ?_) fun c => bsel_of (fun c1 => ?_) fun c1 => ?_⟩
   ·have c : cmpCall a b < 0 := by simpa using c
    refine ix h5.a fun m75 s76 hN => ?_
    have hne : a :: A' ≠ b :: B' := fun e => by
     have := (cmpCall_zero a b).2 (by simp at e; exact e.1)
     omega
    obtain ⟨x', s', q1, u, q2, q3⟩ := h5.gone hne hN hla
    exact ⟨x', s', q1, bsel_of (fun c1 => by simp at c1 <;> omega) fun _ => bsel_of (fun _ => tk q2 (bsel_of (fun c1 => by simp at c1 <;> omega) fun _ => mono q3 (by simp at hm ⊢; omega))) fun c1 => by simp at c1 <;> omega⟩
   ·have c1 : 0 < cmpCall a b := by simpa using c1
    refine ix h5.b fun m75 s76 hN => ?_
    have hne : a :: A' ≠ b :: B' := fun e => by
     have := (cmpCall_zero a b).2 (by simp at e; exact e.1)
     omega
    obtain ⟨x', s', q1, u, q2, q3⟩ := h5.come hne hN hlb
    exact ⟨x', s', q1, bsel_of (fun c1 => by simp at c1 <;> omega) fun _ => bsel_of (fun _ => tk q2 (mono q3 (by simp at hm ⊢; omega))) fun c1 => by simp at c1 <;> omega⟩
   ·have e : a = b := by
     refine (cmpCall_zero a b).1 ?_
     have c : ¬ cmpCall a b < 0 := by simpa using c
     have c1 : ¬ cmpCall a b > 0 := by simpa using c1
     omega
    have e0 : cmpCall a b = 0 := (cmpCall_zero a b).2 e
    subst e
    obtain ⟨u, k1, k2, k3, k4⟩ := tailV h5.a h5.av (by simp)
    obtain ⟨z, j1, j2, j3, j4⟩ := tailV h5.b h5.bv (by simp)
    refine bsel_of (fun _ => tk k1 (bsel_of (fun _ => tk j1 (mono (A' := A') (B' := B') (G := G) (C := C) ⟨k2, k3, fun c hc => h5.ab c (k4 c hc), j2, j3, fun c hc => h5.bb c (j4 c hc), h5.g, h5.gb, h5.c, h5.cb, h5.ap, h5.d.both, h5.f, h5.fr⟩ (by simp at hm ⊢; omega))) fun c => by simp at c <;> omega)) fun c => by simp at c <;> omega
end
end Go.Eng.S

namespace Go.Eng.S
open Go Go.Eng Go.Proofs
set_option linter.constructorNameAsVariable false
noncomputable section
attribute [local irreducible] bsel barsOf mergeB
set_option maxRecDepth 100000 in
theorem Len64_ok {y : Nat} (hy : y < 18446744073709551616) (s : St) : CallsD P F.math_bits_Len64 [.int .u64 (y : Int)] s fun v s' => ∃ n : Nat, v = .int .i64 (n : Int) ∧ LenP y n ∧ n ≤ 64 ∧ s' = s := by
 refine vc.math_bits_Len64_ok ⟨fun n4 n5 s6 _ => s6 = s ∧ ∃ a k : Nat, n4 = a ∧ n5 = k ∧ a < 4294967296 ∧ k ≤ 32 ∧ ∀ m, LenP a m → LenP y (m + k), ?_, ?_⟩
 ·refine bsel_of (fun c => ?_) fun c => ?_
  ·have c : 2 ^ 32 ≤ y := by simp only [decide_eq_true_eq] at c; omega
   exact ⟨by decide, 0, rfl, y / 2 ^ 32, 32, fdiv_pow y 32, rfl, by omega, by omega, fun m h => h.shift c⟩
  ·have c : y < 4294967296 := by simp only [decide_eq_false_iff_not] at c; omega
   exact ⟨0, rfl, y, 0, rfl, rfl, c, by omega, fun m h => h⟩
 rintro _ _ s6 _ ⟨rfl, a, k, rfl, rfl, ha, hk, hL⟩
 refine ⟨fun n4 n5 s7 _ => s7 = s6 ∧ ∃ a k : Nat, n4 = a ∧ n5 = k ∧ a < 65536 ∧ k ≤ 48 ∧ ∀ m, LenP a m → LenP y (m + k), ?_, ?_⟩
 ·refine bsel_of (fun c => ?_) fun c => ?_
  ·have c : 2 ^ 16 ≤ a := by simp only [decide_eq_true_eq] at c; omega
   refine ⟨by decide, 0, rfl, a / 2 ^ 16, k + 16, fdiv_pow a 16, wr_add (a := k) (b := 16) (by omega), by omega, by omega, fun m h => ?_⟩
   have := hL _ (h.shift c)
   rwa [show m + 16 + k = m + (k + 16) by omega] at this
  ·have c : a < 65536 := by simp only [decide_eq_false_iff_not] at c; omega
   exact ⟨0, rfl, a, k, rfl, rfl, c, by omega, hL⟩
 clear hL ha hk a k
 rintro _ _ s7 _ ⟨rfl, a, k, rfl, rfl, ha, hk, hL⟩
 refine ⟨fun n4 n5 s8 _ => s8 = s7 ∧ ∃ a k : Nat, n4 = a ∧ n5 = k ∧ a < 256 ∧ k ≤ 56 ∧ ∀ m, LenP a m → LenP y (m + k), ?_, ?_⟩
 ·refine bsel_of (fun c => ?_) fun c => ?_
  ·have c : 2 ^ 8 ≤ a := by simp only [decide_eq_true_eq] at c; omega
   refine ⟨by decide, 0, rfl, a / 2 ^ 8, k + 8, fdiv_pow a 8, wr_add (a := k) (b := 8) (by omega), by omega, by omega, fun m h => ?_⟩
   have := hL _ (h.shift c)
   rwa [show m + 8 + k = m + (k + 8) by omega] at this
  ·have c : a < 256 := by simp only [decide_eq_false_iff_not] at c; omega
   exact ⟨0, rfl, a, k, rfl, rfl, c, by omega, hL⟩
 clear hL ha hk a k
 rintro _ _ s8 _ ⟨rfl, a, k, rfl, rfl, ha, hk, hL⟩
 refine byteK_len (by decide +kernel) ha (wrap_u8 (by omega) (by omega)) fun c h1 h2 => ⟨c.toNat + k, ?_, hL _ h1, by omega, rfl⟩
 rw [wr_nat (a := c.toNat) (by omega), wr_add (a := k) (b := c.toNat) (by omega), Nat.add_comm]
def idxN (n : Nat) : Nat := if n < 64 then n else 64 + 32 * (n.log2 - 6) + n / 2 ^ (n.log2 - 5) - 32
theorem idxN_lt {n : Nat} (h : n < 18446744073709551616) : idxN n < 1920 := by
 unfold idxN
 split
 ·omega
 ·rename_i hn
  have h0 : n ≠ 0 := by omega
  have h1 : 2 ^ n.log2 ≤ n := Nat.log2_self_le h0
  have h2 : n < 2 ^ (n.log2 + 1) := Nat.lt_log2_self
  generalize n.log2 = k at h1 h2
  have hk : k < 64 := by
   refine Classical.byContradiction fun hc => ?_
   have : 2 ^ 64 ≤ 2 ^ k := Nat.pow_le_pow_right (by omega) (by omega)
   omega
  have hk6 : 6 ≤ k := by
   refine Classical.byContradiction fun hc => ?_
   have : 2 ^ (k + 1) ≤ 2 ^ 6 := Nat.pow_le_pow_right (by omega) (by omega)
   omega
  have : n / 2 ^ (k - 5) < 64 := by
   rw [Nat.div_lt_iff_lt_mul (Nat.pow_pos (by omega))]
   have e : 2 ^ (k + 1) = 64 * 2 ^ (k - 5) := by
    rw [show (64 : Nat) = 2 ^ 6 from rfl, ← Nat.pow_add]; congr 1; omega
   omega
  omega
theorem and31 : ∀ q : Fin 64, 32 ≤ q.1 → (BitVec.toNat ((BitVec.ofInt 64 ((q.1 : Nat) : Int)) &&& (BitVec.ofInt 64 31))) = q.1 - 32 := by decide +kernel
theorem Index_ok (n : Nat) (hn : n < 18446744073709551616) (s : St) : CallsD P F.sketch_Index [.int .u64 (n : Int)] s fun v s' => v = .int .i64 (idxN n : Int) ∧ s' = s := by
 refine CallsD.pure (fun s => (vc.sketch_Index_ok (bsel_of (fun c => ?_) fun c => ?_)).a) rfl s
 ·have c : n < 64 := by simp only [decide_eq_true_eq] at c; omega
  show AV.int .i64 (IntKind.wrap .i64 (n : Int)) = _
  rw [wrap_i64 (by omega) (by omega), idxN, if_pos c]
 ·have c : 64 ≤ n := by simp only [decide_eq_false_iff_not] at c; omega
  refine (Len64_ok hn s).mono ?_
  rintro _ _ ⟨L, rfl, hL, hL64, rfl⟩
  have h0 : n ≠ 0 := by omega
  have h1 : 2 ^ n.log2 ≤ n := Nat.log2_self_le h0
  have h2 : n < 2 ^ (n.log2 + 1) := Nat.lt_log2_self
  have hLk : L = n.log2 + 1 := by
   have hL0 : L ≠ 0 := by
    rintro rfl
    have := hL.1
    simp at this; omega
   have : n.log2 = L - 1 := (Nat.log2_eq_iff h0).2 ⟨hL.2 (by omega), by rw [show L - 1 + 1 = L by omega]; exact hL.1⟩
   omega
  subst hLk
  generalize hk : n.log2 = k at h1 h2 hL hL64 ⊢
  have hk6 : 6 ≤ k := by
   refine Classical.byContradiction fun hc => ?_
   have : 2 ^ (k + 1) ≤ 2 ^ 6 := Nat.pow_le_pow_right (by omega) (by omega)
   omega
  have e : 2 ^ (k + 1) = 64 * 2 ^ (k - 5) := by
   rw [show (64 : Nat) = 2 ^ 6 from rfl, ← Nat.pow_add]; congr 1; omega
  have e' : 2 ^ k = 32 * 2 ^ (k - 5) := by
   rw [show (32 : Nat) = 2 ^ 5 from rfl, ← Nat.pow_add]; congr 1; omega
  have hp : 0 < 2 ^ (k - 5) := Nat.pow_pos (by omega)
  have q1 : n / 2 ^ (k - 5) < 64 := by rw [Nat.div_lt_iff_lt_mul hp]; omega
  have q2 : 32 ≤ n / 2 ^ (k - 5) := by rw [Nat.le_div_iff_mul_le hp]; omega
  have w1 : IntKind.wrap .i64 (((k + 1 : Nat) : Int) - 1) = (k : Int) := by rw [wrap_i64 (by omega) (by omega)]; omega
  have w2 : IntKind.wrap .i64 ((k : Int) - 5) = ((k - 5 : Nat) : Int) := by rw [wrap_i64 (by omega) (by omega)]; omega
  have w3 : IntKind.wrap .i64 ((k : Int) - 6) = ((k - 6 : Nat) : Int) := by rw [wrap_i64 (by omega) (by omega)]; omega
  refine ⟨_, rfl, ?_, ?_⟩
  ·rw [w1, w2]; omega
  ·rw [w1, w2, w3, Int.toNat_natCast, Nat.min_eq_left (by omega), fdiv_pow n (k - 5)]
   rw [wrap_i64 (a := ((n / 2 ^ (k - 5) : Nat) : Int)) (by omega) (by omega), and31 ⟨_, q1⟩ q2]
   rw [wrap_i64 (a := 32 * ((k - 6 : Nat) : Int)) (by omega) (by omega), wrap_i64 (a := 64 + 32 * ((k - 6 : Nat) : Int)) (by omega) (by omega)]
   show AV.int .i64 _ = AV.int .i64 _
   congr 1
   rw [idxN, if_neg (by omega), hk]
   simp only
   rw [wr_nat (by omega), wrap_i64 (by omega) (by omega)]
   omega
def CallR.Rng (c : CallR) : Prop := (-9223372036854775808 ≤ c.hour ∧ c.hour < 9223372036854775808) ∧ 0 ≤ c.took ∧ c.took ≤ M64
def oneT (c : CallR) : Tal := ⟨(0, 1), (0, if c.failed = true then 1 else 0), (0, c.took), [((idxN c.took.toNat : Int), 1)]⟩
theorem oneT_ok {c : CallR} (h : c.Rng) : (oneT c).ok = true := by
 have := idxN_lt (n := c.took.toNat) (by have := h.2; unfold M64 at this; omega)
 simp [Tal.ok, oneT, okB]
 omega
theorem oneT_rng {c : CallR} (h : c.Rng) : (oneT c).Rng where
 a := ⟨⟨by simp [oneT], by simp [oneT, M64]⟩, by simp [oneT], by simp [oneT, M64]⟩
 b := by
  refine ⟨⟨by simp [oneT], by simp [oneT, M64]⟩, ?_⟩
  simp only [oneT]
  split <;> simp [M64]
 c := ⟨⟨by simp [oneT], by simp [oneT, M64]⟩, h.2.1, h.2.2⟩
 l := fun p hp => by
  have := idxN_lt (n := c.took.toNat) (by have := h.2; unfold M64 at this; omega)
  have : p = ((idxN c.took.toNat : Int), 1) := by simpa [oneT] using hp
  subst this
  refine ⟨?_, ?_, ?_, ?_⟩ <;> simp only [M64] <;> omega
theorem One_ok {s : St} {c : CallR} (h : c.Rng) : CallsD P F.calls_One [.agg (callF c)] s fun v s' => ((∃ z, v = (oneT c).V z ∧ Sl barE s' z (oneT c).l ∧ Gone s z) ∧ Frw [] s s') ∧ Fr s' := by
 refine CallsD.of fun hfr => vc.calls_One_ok ?_
 obtain ⟨ho, e, bad, se⟩ := c
 intro m1 s2 h2 m3 s4 h4 s5 hB
 have f4 := h2.fwd.trans h4.fwd
 have f5 := f4.trans hB.fwd
 have o1 := (h2.own.ext h4.fwd).ext hB.fwd
 have o3 := h4.own.ext hB.fwd
 have hse := h.2
 simp only [M64] at hse
 obtain ⟨n, rfl⟩ := Int.eq_ofNat_of_zero_le hse.1
 refine ⟨_, o1.ld1 4 rfl, _, o1.ld1 4 rfl, (Index_ok n (by omega) s5).mono ?_⟩
 rintro _ s9 ⟨rfl, rfl⟩
 refine ⟨_, rfl, o1.ld1 4 rfl, ?_⟩
 have free8 : s9.h.get (s4.nx + 8) = none := hB.free
 have free10 : s9.h.get (s4.nx + 10) = none := hB.free
 have hlt : s9.nx = s4.nx + 12 := hB.lt
 have p1 := hsetS_fwd (o := cellsO [.int .u64 0, .int .u64 0, .int .u64 0, .int .u64 0, .int .u64 0, .int .u64 0, .nilslice]) free10
 have x1 := hsetS_own (s := s9) (b := s4.nx + 10) (cs := [.int .u64 0, .int .u64 0, .int .u64 0, .int .u64 0, .int .u64 0, .int .u64 0, .nilslice])
 have free8' : (hsetS s9 (s4.nx + 10) (cellsO [.int .u64 0, .int .u64 0, .int .u64 0, .int .u64 0, .int .u64 0, .int .u64 0, .nilslice])).h.get (s4.nx + 8) = none := by
  simp only [hsetS, PT.get_set]; rw [if_neg (by omega)]; exact free8
 have y1 := hsetS_fr (o := cellsO [.int .u64 0, .int .u64 0, .int .u64 0, .int .u64 0, .int .u64 0, .int .u64 0, .nilslice]) hB.fr (show s4.nx + 10 < s9.nx by omega)
 have hnx : (hsetS s9 (s4.nx + 10) (cellsO [.int .u64 0, .int .u64 0, .int .u64 0, .int .u64 0, .int .u64 0, .int .u64 0, .nilslice])).nx = s4.nx + 12 := hlt
 generalize hsetS s9 (s4.nx + 10) (cellsO [.int .u64 0, .int .u64 0, .int .u64 0, .int .u64 0, .int .u64 0, .int .u64 0, .nilslice]) = sA at p1 x1 free8' y1 hnx ⊢
 have p2 := hsetS_fwd (o := cellsO [.int .i64 (idxN n : Int), .int .u64 1]) free8'
 have x2 := hsetS_own (s := sA) (b := s4.nx + 8) (cs := [.int .i64 (idxN n : Int), .int .u64 1])
 generalize hsetS sA (s4.nx + 8) (cellsO [.int .i64 (idxN n : Int), .int .u64 1]) = sB at p2 x2 ⊢
 have fB : Frw [] s9 sB := p1.trans p2
 have xB := x1.ext p2
 obtain ⟨s11, w1, xC, w2, w3, w4, w5⟩ := xB.wrAll [.int .u64 0, .int .u64 1, .int .u64 0, .int .u64 0, .int .u64 0, .int .u64 (n : Int), .slice (s4.nx + 8) 0 1 (.exact 1)] rfl rfl
 have f11 : Frw [] s9 s11 := fB.step w2 (by intro c hc; have : c = s4.nx + 10 := by simpa using hc
                                            rw [this]; exact free10)
 have x2' := x2.fwd w2 (by simp)
 have sl : ∀ s', Frw [] s11 s' ∨ Frw [s4.nx + 10] s11 s' → Own s' (s4.nx + 8) [.int .i64 (idxN n : Int), .int .u64 1] := by
  rintro s' (h | h)
  ·exact x2'.ext h
  ·exact x2'.fwd h (by simp)
 have m3lt : m3 ≠ s4.nx + 10 ∧ m3 ≠ s4.nx + 8 := by
  refine ⟨?_, ?_⟩ <;> (rintro rfl; exact o3.there (by assumption))
 have fin : ∀ s', Own s' (s4.nx + 10) ((oneT ⟨ho, e, bad, n⟩).C (.slice (s4.nx + 8) 0 1 (.exact 1))) → Own s' (s4.nx + 8) [.int .i64 (idxN n : Int), .int .u64 1] → Frw [] s9 s' →
   ∃ (n14 n15 n16 n17 n18 n19 : Int) (x20 : AV), ldN s' (.ptr (s4.nx + 10) 0) 7 = some [.int .u64 n14, .int .u64 n15, .int .u64 n16, .int .u64 n17, .int .u64 n18, .int .u64 n19, x20] ∧
   ∃ (s21 : St), wrN s' (.ptr m3 0) [.int .u64 n14, .int .u64 n15, .int .u64 n16, .int .u64 n17, .int .u64 n18, .int .u64 n19, x20] = some s21 ∧
   ∃ (n22 n23 n24 n25 n26 n27 : Int) (x28 : AV), ldN s21 (.ptr m3 0) 7 = some [.int .u64 n22, .int .u64 n23, .int .u64 n24, .int .u64 n25, .int .u64 n26, .int .u64 n27, x28] ∧
   (∃ z, AV.agg [.int .u64 n22, .int .u64 n23, .int .u64 n24, .int .u64 n25, .int .u64 n26, .int .u64 n27, x28] = (oneT ⟨ho, e, bad, n⟩).V z ∧ Sl barE s21 z (oneT ⟨ho, e, bad, n⟩).l ∧ Gone s z) ∧ Frw [] s s21 := by
  intro s' hx hx8 hf
  refine ⟨_, _, _, _, _, _, _, hx.all rfl, ?_⟩
  obtain ⟨s21, v1, v2, v3, v4, v5, v6⟩ := (o3.ext hf).wrAll ((oneT ⟨ho, e, bad, n⟩).C (.slice (s4.nx + 8) 0 1 (.exact 1))) rfl rfl
  refine ⟨s21, v1, _, _, _, _, _, _, _, v2.all rfl, ⟨.slice (s4.nx + 8) 0 1 (.exact 1), rfl, .inr ⟨_, 0, 1, .exact 1, rfl, rfl, ?_⟩, ?_⟩, ?_⟩
  ·exact (hx8.fwd v3 (by simpa using m3lt.2.symm)).rd
  ·intro c hc
   have : c = s4.nx + 8 := by simpa [blkOf] using hc
   rw [this]; exact f5.none free8 (by simp)
  ·exact (f5.trans hf).step v3 (by
    intro c hc
    have : c = m3 := by simpa using hc
    rw [this]; exact h2.fwd.none h4.gone (by simp))
 refine ⟨s11, w1, bad, (o1.ext f11).ld1 3 rfl, bsel_of (fun c => ?_) fun c => ?_⟩
 ·obtain ⟨s13, u1, u2, u3, u4, u5, u6⟩ := xC.wrN 3 [.int .u64 1] rfl (by simp)
  refine ⟨s13, u1, fin s13 ?_ (sl s13 (.inr u3)) (f11.step u3 (by
    intro c hc
    have : c = s4.nx + 10 := by simpa using hc
    rw [this]; exact free10))⟩
  subst c
  exact u2
 ·subst c
  exact fin s11 xC (sl s11 (.inl (.refl _ _))) f11
end
end Go.Eng.S

namespace Go.Eng.S
open Go Go.Eng Go.Proofs
set_option linter.constructorNameAsVariable false
set_option maxRecDepth 4000
noncomputable section
attribute [local irreducible] bsel barsOf mergeB
structure TC (s : St) (m : Nat) (t : Tal) (z : AV) : Prop where
 own : Own s m (t.C z)
 sl : Sl barE s z t.l
 off : m ∉ blkOf z
theorem TC.fwd {s s' : St} {m : Nat} {t : Tal} {z : AV} {M : List Nat} (h : TC s m t z) (hf : Frw M s s') (hm : m ∉ M) (hz : ∀ c, c ∈ M → c ∉ blkOf z) : TC s' m t z :=
 ⟨h.own.fwd hf hm, h.sl.beside hf fun c hc => .inr (hz c hc), h.off⟩
theorem TC.ext {s s' : St} {m : Nat} {t : Tal} {z : AV} (h : TC s m t z) (hf : Frw [] s s') : TC s' m t z := h.fwd hf (by simp) (by simp)
theorem sl_thereB {s : St} {x : AV} {l : List Bar} (h : Sl barE s x l) : ∀ c, c ∈ blkOf x → s.h.get c ≠ none := by
 rcases h with ⟨h1, _⟩ | ⟨b, o, n, cap, rfl, _, h3⟩
 ·intro c hc
  cases x <;> simp [slZero, blkOf] at h1 hc
 ·intro c hc
  have : c = b := by simpa [blkOf] using hc
  rw [this]; exact h3.there
theorem tail_ok {s9 s12 s37 : St} {t' : Tal} {z : AV} {m3 : Nat} {cs : List AV} (hB : Bump s9 13 s12) (hg : Gro s12 s37) (f : Frw [] s12 s37) (o3 : Own s37 m3 cs) (hcs : cs.length = 7) (hz : Sl barE s37 z t'.l) (hn : Gone s12 z) (h3 : s9.h.get m3 ≠ none) :
  ∃ s46, wrN (hsetS s37 (s9.nx + 10) (cellsO [.int .u64 0, .int .u64 0, .int .u64 0, .int .u64 0, .int .u64 0, .int .u64 0, .nilslice])) (.ptr (s9.nx + 10) 0) (t'.C z) = some s46 ∧ ldN s46 (.ptr (s9.nx + 10) 0) 7 = some (t'.C z) ∧
   ∃ s69, wrN s46 (.ptr m3 0) (t'.C z) = some s69 ∧ TC s69 m3 t' z ∧ (∀ c, s9.h.get c ≠ none → c ∉ blkOf z) ∧ Frw [m3] s9 s69 ∧ Fr s69 := by
 have hlt : s12.nx = s9.nx + 13 := hB.lt
 have free12 : s12.h.get (s9.nx + 10) = none := hB.free
 have free37 : s37.h.get (s9.nx + 10) = none := hg.2.2 _ (by omega) free12
 have p1 := hsetS_fwd (o := cellsO [.int .u64 0, .int .u64 0, .int .u64 0, .int .u64 0, .int .u64 0, .int .u64 0, .nilslice]) free37
 have x1 := hsetS_own (s := s37) (b := s9.nx + 10) (cs := [.int .u64 0, .int .u64 0, .int .u64 0, .int .u64 0, .int .u64 0, .int .u64 0, .nilslice])
 have y1 := hsetS_fr (o := cellsO [.int .u64 0, .int .u64 0, .int .u64 0, .int .u64 0, .int .u64 0, .int .u64 0, .nilslice]) hg.1 (show s9.nx + 10 < s37.nx by have := hg.2.1; omega)
 have hz1 := hz.ext p1
 have o3' := o3.ext p1
 generalize hsetS s37 (s9.nx + 10) (cellsO [.int .u64 0, .int .u64 0, .int .u64 0, .int .u64 0, .int .u64 0, .int .u64 0, .nilslice]) = sA at p1 x1 y1 hz1 o3' ⊢
 have nz : s9.nx + 10 ∉ blkOf z := fun h => sl_thereB hz _ h free37
 have n3 : m3 ≠ s9.nx + 10 := fun e => by rw [e] at o3; exact o3.there free37
 obtain ⟨s46, w1, x2, f2, w4, w5, w6⟩ := x1.wrAll (t'.C z) (hz.onesx []) rfl
 have hz2 := hz1.beside f2 fun c hc => .inr (by have : c = s9.nx + 10 := by simpa using hc
                                                rw [this]; exact nz)
 have o3'' := o3'.fwd f2 (by simpa using n3)
 have hz9 : ∀ c, s9.h.get c ≠ none → c ∉ blkOf z := fun c hc hx => by
  have := hn c hx
  exact hc (hB.fwd.none this (by simp))
 obtain ⟨s69, v1, x3, f3, v4, v5, v6⟩ := o3''.wrAll (t'.C z) (hz.onesx []) (by rw [hcs]; rfl)
 refine ⟨s46, w1, x2.all rfl, s69, v1, ⟨x3, hz2.beside f3 fun c hc => .inr (by have : c = m3 := by simpa using hc
                                                                               rw [this]; exact hz9 _ h3), hz9 _ h3⟩, hz9, ?_, (y1.wr x1.there w4 w6).wr o3''.there v4 v6⟩
 have f9 : Frw [] s9 s46 := ((hB.fwd.trans f).trans p1).step f2 fun c hc => by
  have : c = s9.nx + 10 := by simpa using hc
  rw [this]; exact hB.fwd.none free12 (by simp)
 exact (f9.mono (by simp)).trans f3
def sumT (t : Tal) (l : List CallR) : Tal := l.foldl (fun t c => t.plus (oneT c)) t
theorem sumT_snoc {t : Tal} {l : List CallR} {c : CallR} : sumT t (l ++ [c]) = (sumT t l).plus (oneT c) := by simp [sumT]
theorem Rng.plusT {t u : Tal} (ht : t.Rng) (hu : u.Rng) : (t.plus u).Rng := ⟨ht.a.plus hu.a, ht.b.plus hu.b, ht.c.plus hu.c, mergeB_rng ht.l hu.l⟩
theorem sumT_fine {t : Tal} (ht : t.Rng) (ho : t.ok = true) : ∀ {l : List CallR}, (∀ c, c ∈ l → c.Rng) → (sumT t l).Rng ∧ (sumT t l).ok = true
 | [], _ => ⟨ht, ho⟩
 | c :: l, h => sumT_fine (t := t.plus (oneT c)) (Rng.plusT ht (oneT_rng (h c (by simp)))) Tal.plus_ok fun d hd => h d (by simp [hd])
set_option maxHeartbeats 1000000 in
theorem summed_ok {s : St} {x : AV} {l : List CallR} (hx : Sl callE s x l) (hr : ∀ c, c ∈ l → c.Rng) (hsz : l.length < 4611686018427387904) :
  CallsA P F.spoorlaw14_summed [x] s fun v s' => ∃ z, v = .tuple [(sumT .zero l).V z, .bool true] ∧ Sl barE s' z (sumT .zero l).l ∧ (∀ c, c ∈ blkOf z → s.h.get c = none) ∧ Frw [] s s' ∧ Fr s' := by
 refine vc.spoorlaw14_summed_ok ?_
 intro m1 s2 h2 m3 s4 h4
 have n13 : m1 ≠ m3 := h4.ne h2.own.there
 obtain ⟨s5, w5, o3, f5, v4, v5, v6⟩ := h4.own.wrAll (Tal.zero.C .nilslice) rfl rfl
 have o1 := (h2.own.ext h4.fwd).fwd f5 (by simpa using n13)
 have g3 : s.h.get m3 = none := h2.fwd.none h4.gone (by simp)
 have f05 : Frw [] s s5 := (h2.fwd.trans h4.fwd).step f5 (by simpa using g3)
 have hfr5 := h4.fr.wr h4.own.there v4 v6
 refine ⟨s5, w5, fun n s9 m => ∃ (i : Nat) (z : AV), n = i ∧ m = l.length - i ∧ i ≤ l.length ∧ TC s9 m3 (sumT .zero (l.take i)) z ∧ m1 ∉ blkOf z ∧ (∀ c, c ∈ blkOf z → s.h.get c = none) ∧ Own s9 m1 (Tal.zero.C .nilslice) ∧ Frw [] s s9 ∧ Fr s9, ⟨_, 0, .nilslice, rfl, rfl, by omega, ⟨o3, .nil _ _, by simp [blkOf]⟩, by simp [blkOf], by simp [blkOf], o1, f05, hfr5⟩, ?_⟩
 rintro _ s9 m10 ⟨i, z, rfl, hm, hi, hT, hz1, hzn, o1, f9, hfr9⟩
 refine (hx.ext f9).slen (bsel_of (fun c => ?_) fun c => ?_)
 ·have c : i < l.length := by simpa using c
  intro s12 hB
  have hT12 := hT.ext hB.fwd
  have hci := hr _ (List.getElem_mem c)
  obtain ⟨hR, hO⟩ := sumT_fine (t := .zero) Tal.zero_rng Tal.zero_ok (l := l.take i) fun c hc => hr c (List.mem_of_mem_take hc)
  refine ⟨_, _, _, _, _, _, z, hT12.own.all rfl, (hx.ext (f9.trans hB.fwd)).ixs rfl rfl c fun b o hRd => ⟨_, _, _, _, _, hRd.all rfl, (One_ok hci).gro.mono ?_⟩⟩
  rintro _ s28 ⟨⟨⟨⟨y, rfl, hy, hgy⟩, f28⟩, hfr28⟩, g28⟩
  have hT28 := hT12.ext f28
  refine ⟨_, _, _, _, _, _, y, rfl, hT28.own.all rfl, (Plus_okS hT28.sl hy hR (oneT_rng hci)).gro.mono ?_⟩
  rintro v s37 ⟨⟨⟨hv, f37⟩, hfr37⟩, g37⟩
  rw [if_pos ⟨hO, oneT_ok hci⟩] at hv
  obtain ⟨z', rfl, hz', hgz⟩ := hv
  obtain ⟨s46, q1, q2, s69, q3, q4, q5, q6, q7⟩ := tail_ok hB (g28.trans g37) (f28.trans f37) (hT28.own.ext f37) rfl hz'.1.sl (hgz.back f28) hT.own.there
  refine ⟨_, _, _, _, _, _, z', 0, rfl, s46, q1, bsel_of (fun c => by simp at c) fun _ => ⟨_, _, _, _, _, _, z', q2, s69, q3, l.length - (i + 1), by omega, i + 1, z', wr_succ (by omega), rfl, by omega, ?_, q5 _ o1.there, fun c hc => Classical.byContradiction fun hn => q5 c (fun e => hn (f9.none e (by simp))) hc, o1.fwd q6 (by simpa using n13), f9.step q6 (by simpa using g3), q7⟩⟩
  rw [← List.take_append_getElem c, sumT_snoc]
  exact q4
 ·have c : i = l.length := by simp at c; omega
  subst c
  rw [List.take_length] at hT
  obtain ⟨s78, w1, o1', f78, w4, w5, w6⟩ := o1.wrAll ((sumT .zero l).C z) (hT.sl.onesx []) rfl
  have hoff : ∀ c, c ∈ [m1] → NoCells s9 c ∨ c ∉ blkOf z := fun c hc => .inr (by simp at hc; rw [hc]; exact hz1)
  exact ⟨_, _, _, _, _, _, z, hT.own.all rfl, s78, w1, _, _, _, _, _, _, z, o1'.all rfl, z, rfl, hT.sl.beside f78 hoff, hzn, f9.step f78 (by simpa using h2.gone), hfr9.wr o1.there w4 w6⟩
end
end Go.Eng.S

namespace Go.Eng.S
open Go Go.Eng Go.Proofs
set_option linter.constructorNameAsVariable false
noncomputable section
attribute [local irreducible] barsOf mergeB
structure Bnd (n : Nat) (t : Tal) : Prop where
 a : val2 t.a ≤ n * 18446744073709551615
 b : val2 t.b ≤ n * 18446744073709551615
 c : val2 t.c ≤ n * 18446744073709551615
 l : ∀ i, cnt t.l i ≤ n
theorem Bnd.zero : Bnd 0 .zero := ⟨by simp [Tal.zero, val2], by simp [Tal.zero, val2], by simp [Tal.zero, val2], fun i => by simp [Tal.zero, cnt]⟩
theorem Bnd.mono {m n : Nat} {t : Tal} (h : Bnd m t) (hmn : m ≤ n) : Bnd n t :=
 ⟨by have := h.a; omega, by have := h.b; omega, by have := h.c; omega, fun i => by have := h.l i; omega⟩
theorem Bnd.plus {m n : Nat} {t u : Tal} (h : Bnd m t) (h' : Bnd n u) (ht : t.Rng) (hu : u.Rng) (ot : t.ok = true) (ou : u.ok = true) : Bnd (m + n) (t.plus u) where
 a := by
  have h1 := h.a; have h2 := h'.a
  show val2 (plusP t.a u.a) ≤ _
  rw [val2_plusP]; split <;> omega
 b := by
  have h1 := h.b; have h2 := h'.b
  show val2 (plusP t.b u.b) ≤ _
  rw [val2_plusP]; split <;> omega
 c := by
  have h1 := h.c; have h2 := h'.c
  show val2 (plusP t.c u.c) ≤ _
  rw [val2_plusP]; split <;> omega
 l := fun i => by
  have h1 := h.l i; have h2 := h'.l i
  show cnt (mergeB t.l u.l) i ≤ _
  rw [cnt_merge ot ou ht.l hu.l]
  unfold sat
  split <;> omega
theorem cnt_le {l : List Bar} {k : Int} (h0 : 0 ≤ k) (h : ∀ p, p ∈ l → p.2 ≤ k) (i : Nat) : cnt l i ≤ k := by
 induction l with
 | nil => simpa [cnt] using h0
 | cons p q ih =>
  simp only [cnt]
  split
  ·exact h p (List.mem_cons_self ..)
  ·exact ih fun x hx => h x (List.mem_cons_of_mem _ hx)
section
attribute [local semireducible] barsOf mergeB
theorem subR_eq : ∀ {l : List Bar} {r : RowF} {last : Int}, -1 ≤ last → okB last l = true → (∀ i, cnt l i ≤ r i) → ∃ r', subR r l = some r' ∧ ∀ i, r' i = r i - cnt l i
 | [], r, _, _, _, _ => ⟨r, rfl, fun i => by simp [cnt]⟩
 | p :: q, r, last, h0, h, hle => by
  simp only [okB, Bool.and_eq_true, decide_eq_true_eq] at h
  obtain ⟨⟨⟨h1, h2⟩, h3⟩, h4⟩ := h
  have hp := hle p.1.toNat
  simp only [cnt, if_true] at hp
  have hn := cnt_none (has_below (l := q) (last := p.1) (i := p.1.toNat) (by omega) h4 (by omega))
  obtain ⟨r', e1, e2⟩ := subR_eq (l := q) (r := upd r p.1.toNat (r p.1.toNat - p.2)) (last := p.1) (by omega) h4 (fun i => by
   by_cases e : i = p.1.toNat
   ·subst e; rw [hn]; simp [upd]; omega
   ·have := hle i
    simp only [cnt, Ne.symm e, if_false] at this
    simp [upd, e]; exact this)
  refine ⟨r', by simp only [subR]; rw [if_neg (by omega)]; exact e1, fun i => ?_⟩
  rw [e2]
  by_cases e : i = p.1.toNat
  ·subst e; simp [upd, cnt, hn]
  ·simp [upd, cnt, e, Ne.symm e]
theorem less_merge {a b : List Bar} (ha : okB (-1) a = true) (hb : okB (-1) b = true) (ra : RngB a) (rb : RngB b) (hm : ∀ p, p ∈ mergeB a b → p.2 ≠ M64) : lessB (mergeB a b) b = some a := by
 have hc : ∀ i, fillR zeroR (mergeB a b) i = cnt a i + cnt b i := by
  intro i
  rw [fill_zero mergeB_ok, cnt_merge ha hb ra rb]
  have := merge_high ha hb ra rb hm i
  unfold sat; rw [if_pos (by omega)]
 obtain ⟨r', e1, e2⟩ := subR_eq (r := fillR zeroR (mergeB a b)) (by omega : (-1 : Int) ≤ -1) hb (fun i => by rw [hc]; have := cnt_rng ra i; omega)
 unfold lessB
 rw [e1]
 simp only [Option.map_some]
 have : barsOf r' = barsOf (cnt a) := barsTo_congr fun i _ => by rw [e2, hc]; omega
 rw [this, barsOf_cnt ha ra]
theorem okB_cons' {last : Int} {p : Bar} {r : List Bar} : okB last (p :: r) = true ↔ last < p.1 ∧ p.1 < 1920 ∧ p.2 ≠ 0 ∧ okB p.1 r = true := by
 simp [okB, and_assoc]
theorem cnt_mem : ∀ {l : List Bar} {last : Int} {p : Bar}, -1 ≤ last → okB last l = true → p ∈ l → cnt l p.1.toNat = p.2
 | [], _, _, _, _, h => by simp at h
 | q :: r, last, p, h0, ho, hp => by
  obtain ⟨h1, h2, h3, h4⟩ := (okB_cons' (last := last) (p := q) (r := r)).1 ho
  simp only [cnt]
  rcases List.mem_cons.1 hp with rfl | hp
  ·rw [if_pos rfl]
  ·have hq := okB_mem h4 p hp
   rw [if_neg (by omega)]
   exact cnt_mem (by omega) h4 hp
end
theorem bnd_back {n : Nat} {t u : Tal} (ht : t.Rng) (hu : u.Rng) (ot : t.ok = true) (ou : u.ok = true) (hB : Bnd n (t.plus u)) (hn : n ≤ 4611686018427387904) : (t.plus u).minus u = some t := by
 have ha := hB.a
 have hb := hB.b
 have hc := hB.c
 unfold Tal.minus
 rw [if_pos ⟨plus_ge ht.a hu.a, plus_ge ht.b hu.b, plus_ge ht.c hu.c⟩]
 have hl : lessB (t.plus u).l u.l = some t.l := less_merge ot ou ht.l hu.l fun p hp => by
  have h1 := hB.l p.1.toNat
  have h2 : cnt (t.plus u).l p.1.toNat = p.2 := cnt_mem (last := -1) (by omega) mergeB_ok hp
  rw [h2] at h1
  unfold M64; omega
 rw [hl]
 simp only [Option.map_some]
 have ne : ∀ q : P2, val2 q ≤ n * 18446744073709551615 → q ≠ of2 M128 := fun q hq h => by
  rw [h, val2_of2] at hq
  unfold M128 at hq
  omega
 have e1 : minusP (t.plus u).a u.a = t.a := minus_plus ht.a hu.a (ne _ ha)
 have e2 : minusP (t.plus u).b u.b = t.b := minus_plus ht.b hu.b (ne _ hb)
 have e3 : minusP (t.plus u).c u.c = t.c := minus_plus ht.c hu.c (ne _ hc)
 rw [e1, e2, e3]
theorem Bnd.one {c : CallR} (h : c.Rng) : Bnd 1 (oneT c) := by
 have hr := oneT_rng h
 have h1 := h.2
 unfold M64 at h1
 refine ⟨?_, ?_, ?_, fun i => ?_⟩
 ·simp [oneT, val2]
 ·simp only [oneT, val2]; split <;> omega
 ·simp only [oneT, val2]; omega
 ·refine cnt_le (by omega) (fun p hp => ?_) i
  have : p = ((idxN c.took.toNat : Int), 1) := by simpa [oneT] using hp
  rw [this]; simp
theorem sumT_bnd : ∀ {l : List CallR} {t : Tal} {n : Nat}, Bnd n t → t.Rng → t.ok = true → (∀ c, c ∈ l → c.Rng) → Bnd (n + l.length) (sumT t l)
 | [], t, n, h, _, _, _ => h
 | c :: l, t, n, h, hr, ho, hl => by
  have hc := hl c (by simp)
  have := sumT_bnd (l := l) (t := t.plus (oneT c)) (n := n + 1) (h.plus (.one hc) hr (oneT_rng hc) ho (oneT_ok hc)) (hr.plus (oneT_rng hc)) Tal.plus_ok fun d hd => hl d (by simp [hd])
  rw [List.length_cons, show n + (l.length + 1) = n + 1 + l.length by omega]
  exact this
theorem sumT_perm {l l' : List CallR} (hp : l.Perm l') : ∀ {t : Tal}, t.Rng → t.ok = true → (∀ c, c ∈ l → c.Rng) → sumT t l = sumT t l' := by
 induction hp with
 | nil => intro t _ _ _; rfl
 | cons c _ ih =>
  intro t hr ho h
  have hc := h c (by simp)
  exact ih (t := t.plus (oneT c)) (hr.plus (oneT_rng hc)) Tal.plus_ok fun d hd => h d (by simp [hd])
 | swap x y l =>
  intro t hr ho h
  have hx := h x (by simp)
  have hy := h y (by simp)
  show sumT ((t.plus (oneT y)).plus (oneT x)) l = sumT ((t.plus (oneT x)).plus (oneT y)) l
  congr 1
  rw [Tal.plus_assoc hr (oneT_rng hy) (oneT_rng hx) ho (oneT_ok hy) (oneT_ok hx), Tal.plus_assoc hr (oneT_rng hx) (oneT_rng hy) ho (oneT_ok hx) (oneT_ok hy), Tal.plus_comm (oneT_rng hy) (oneT_rng hx) (oneT_ok hy) (oneT_ok hx)]
 | trans h1 h2 ih1 ih2 =>
  intro t hr ho h
  rw [ih1 hr ho h, ih2 hr ho fun c hc => h c (h1.mem_iff.2 hc)]
theorem take_one {l r : List CallR} {c : CallR} (hr : ∀ d, d ∈ l → d.Rng) (hp : l.Perm (r ++ [c])) (hsz : l.length ≤ 4611686018427387904) : (sumT .zero l).minus (oneT c) = some (sumT .zero r) := by
 have hc : c.Rng := hr c (hp.mem_iff.2 (by simp))
 have hr' : ∀ d, d ∈ r → d.Rng := fun d hd => hr d (hp.mem_iff.2 (by simp [hd]))
 rw [sumT_perm hp Tal.zero_rng Tal.zero_ok hr, sumT_snoc]
 obtain ⟨h1, h2⟩ := sumT_fine Tal.zero_rng Tal.zero_ok hr'
 have hB := sumT_bnd (l := r) .zero Tal.zero_rng Tal.zero_ok hr'
 have hl : l.length = r.length + 1 := by rw [hp.length_eq]; simp
 refine bnd_back h1 (oneT_rng hc) h2 (oneT_ok hc) (n := l.length) ?_ hsz
 have := hB.plus (.one hc) h1 (oneT_rng hc) h2 (oneT_ok hc)
 rw [hl, show r.length + 1 = 0 + r.length + 1 by omega]
 exact this
end
end Go.Eng.S

namespace Go.Eng.S
open Go Go.Eng Go.Proofs
set_option linter.constructorNameAsVariable false
set_option maxRecDepth 4000
noncomputable section
attribute [local irreducible] bsel barsOf mergeB
theorem sameBars_ok {s : St} {x y : AV} {l : List Bar} (hx : Sl barE s x l) (hy : Sl barE s y l) (hn : l.length < 4611686018427387904) :
  CallsD P F.spoorlaw14_sameBars [x, y] s fun v s' => (v = .bool true ∧ Frw [] s s') ∧ Fr s' := by
 refine CallsD.of fun hfr => vc.spoorlaw14_sameBars_ok ?_
 refine hx.slen (hy.slen (bsel_of (fun c => by simp at c) fun _ => ?_))
 refine ⟨fun n s4 m => ∃ k : Nat, n = k ∧ m = l.length - k ∧ k ≤ l.length ∧ Frw [] s s4 ∧ Fr s4, ⟨_, 0, rfl, rfl, by omega, .refl _ _, hfr⟩, ?_⟩
 rintro _ s4 m7 ⟨k, rfl, hm, hk, f4, hfr4⟩
 refine (hx.ext f4).slen (bsel_of (fun c => ?_) fun _ => ⟨rfl, f4⟩)
 have c : k < l.length := by simpa using c
 intro s9 hB
 have f9 := f4.trans hB.fwd
 refine (hx.ext f9).ixs rfl rfl c fun b o hR => ⟨_, _, hR.all rfl, (hy.ext f9).ixs rfl rfl c fun b o hR => ⟨_, _, hR.all rfl, bsel_of (fun c => by simp at c) fun _ => ⟨l.length - (k + 1), by omega, k + 1, wr_succ (by omega), rfl, by omega, f9, hB.fr⟩⟩⟩
theorem sameTally_ok {s : St} {t : Tal} {x y : AV} (hx : Sl barE s x t.l) (hy : Sl barE s y t.l) (hn : t.l.length < 4611686018427387904) :
  CallsD P F.spoorlaw14_sameTally [t.V x, t.V y] s fun v s' => (v = .bool true ∧ Frw [] s s') ∧ Fr s' := by
 refine CallsD.of fun hfr => vc.spoorlaw14_sameTally_ok ?_
 intro m1 s2 h2 m3 s4 h4
 have f4 := h2.fwd.trans h4.fwd
 have o1 := h2.own.ext h4.fwd
 have o3 := h4.own
 refine ⟨x, o1.ld1 6 rfl, y, o3.ld1 6 rfl, (sameBars_ok (hx.ext f4) (hy.ext f4) hn).mono ?_⟩
 rintro _ s8 ⟨⟨rfl, f8⟩, hfr8⟩
 have p1 := o1.ext f8
 have p3 := o3.ext f8
 refine ⟨true, rfl, bsel_of (fun _ => ?_) fun c => by simp at c⟩
 refine ⟨_, _, p1.ldN 0 2 (by simp), _, _, p3.ldN 0 2 (by simp), bsel_of (fun _ => ?_) fun c => by simp at c⟩
 refine ⟨_, _, p1.ldN 2 2 (by simp), _, _, p3.ldN 2 2 (by simp), bsel_of (fun _ => ?_) fun c => by simp at c⟩
 exact ⟨_, _, p1.ldN 4 2 (by simp), _, _, p3.ldN 4 2 (by simp), by simp, f4.trans f8⟩
theorem pick_ok {a : Int} {n : Nat} (ha : -9223372036854775808 ≤ a ∧ a < 9223372036854775808) (hn : 0 < n) (s : St) : CallsD P F.spoorlaw14_pick [.int .i64 a, .int .i64 (n : Int)] s fun v s' => (∃ k : Nat, k < n ∧ v = .int .i64 (k : Int)) ∧ s' = s := by
 have key : ∀ b : Int, 0 ≤ b → ∃ k : Nat, k < n ∧ Int.tmod b n = (k : Int) := fun b hb => by
  obtain ⟨m, rfl⟩ := Int.eq_ofNat_of_zero_le hb
  exact ⟨m % n, Nat.mod_lt _ hn, rfl⟩
 refine vc.spoorlaw14_pick_ok (bsel_of (fun c => ⟨by omega, ?_⟩) fun c => ⟨by omega, ?_⟩)
 ·have c : a < 0 := by simpa using c
  rw [wrap_i64 (a := a + 1) (by omega) (by omega), wrap_i64 (by omega) (by omega)]
  obtain ⟨k, h1, h2⟩ := key (0 - (a + 1)) (by omega)
  exact ⟨⟨k, h1, by rw [h2]⟩, rfl⟩
 ·have c : ¬ a < 0 := by simpa using c
  obtain ⟨k, h1, h2⟩ := key a (by omega)
  exact ⟨⟨k, h1, by rw [h2]⟩, rfl⟩
end
end Go.Eng.S

namespace Go.Eng.S
open Go Go.Eng Go.Proofs
set_option linter.constructorNameAsVariable false
set_option maxRecDepth 4000
noncomputable section
attribute [local irreducible] bsel barsOf mergeB
def intV (n : Int) : AV := .int .i64 n
set_option maxHeartbeats 2000000 in
theorem CallsTurned_ok {s : St} {x y o : AV} {A B : List CallR} {N : List Int} (hx : Sl callE s x A) (hy : Sl callE s y B) (ho : Sl (oneE intV) s o N) (rA : ∀ c, c ∈ A → c.Rng) (rB : ∀ c, c ∈ B → c.Rng) (rN : ∀ n, n ∈ N → -9223372036854775808 ≤ n ∧ n < 9223372036854775808)
  (hA : (A.length + 1 + (A.length + 1) / 4 + 600) * 56 ≤ pow48) (hB : (B.length + 1 + (B.length + 1) / 4 + 600) * 56 ≤ pow48) (hN : N.length < 4611686018427387904) :
  CallsA P F.spoorlaw14_CallsTurned [x, y, o] s fun v _ => v = .bool true := by
 have hA' : A.length < 4611686018427387904 := by unfold pow48 at hA; omega
 have hB' : B.length < 4611686018427387904 := by unfold pow48 at hB; omega
 refine vc.spoorlaw14_CallsTurned_ok ((shown_ok s).mono ?_)
 rintro _ s2 ⟨rfl, rfl⟩
 refine ⟨true, rfl, (summed_ok hx rA hA').mono ?_⟩
 rintro _ s5 ⟨z1, rfl, hz1, n1, f5, hfr5⟩
 refine ⟨_, _, _, _, _, _, z1, true, rfl, ?_⟩
 intro m14 s15 h14
 obtain ⟨s16, w16, o14, f16, v4, v5, v6⟩ := h14.own.wrAll ((sumT .zero A).C z1) (hz1.onesx []) rfl
 have hfr16 := h14.fr.wr h14.own.there v4 v6
 have g14 : s2.h.get m14 = none := f5.none h14.gone (by simp)
 have f016 : Frw [] s2 s16 := (f5.trans h14.fwd).step f16 (by simpa using g14)
 have T1 : TC s16 m14 (sumT .zero A) z1 := by
  have hoff : m14 ∉ blkOf z1 := fun h => sl_thereB hz1 _ h h14.gone
  exact ⟨o14, (hz1.ext h14.fwd).beside f16 fun c hc => .inr (by simp at hc; rw [hc]; exact hoff), hoff⟩
 refine ⟨s16, w16, (summed_ok (hy.ext f016) rB hB').mono ?_⟩
 rintro _ s18 ⟨z2, rfl, hz2, n2, f18, hfr18⟩
 refine ⟨_, _, _, _, _, _, z2, true, rfl, ?_⟩
 intro m27 s28 h27
 obtain ⟨s29, w29, o27, f29, u4, u5, u6⟩ := h27.own.wrAll ((sumT .zero B).C z2) (hz2.onesx []) rfl
 have hfr29 := h27.fr.wr h27.own.there u4 u6
 have g27 : s16.h.get m27 = none := f18.none h27.gone (by simp)
 have f1629 : Frw [] s16 s29 := (f18.trans h27.fwd).step f29 (by simpa using g27)
 have f029 := f016.trans f1629
 have T1' := T1.ext f1629
 have e1427 : m14 ≠ m27 := fun e => o14.there (by rw [e]; exact g27)
 have T2 : TC s29 m27 (sumT .zero B) z2 := by
  have hoff : m27 ∉ blkOf z2 := fun h => sl_thereB hz2 _ h h27.gone
  exact ⟨o27, (hz2.ext h27.fwd).beside f29 fun c hc => .inr (by simp at hc; rw [hc]; exact hoff), hoff⟩
 have z2off : m14 ∉ blkOf z2 := fun h => o14.there (n2 _ h)
 have z1off : m27 ∉ blkOf z1 := fun h => sl_thereB T1.sl _ h g27
 refine ⟨s29, w29, (Delta_ok (hx.ext f029) (hy.ext f029) hA hB).mono ?_⟩
 rintro _ s31 ⟨x32, x33, G, C, rfl, hG, hC, hnew, ⟨K, pA, pB⟩, _, f31, hfr31⟩
 have lA : A.length = K.length + G.length := by rw [pA.length_eq, List.length_append]
 have lB : B.length = K.length + C.length := by rw [pB.length_eq, List.length_append]
 have off32 : m14 ∉ blkOf x32 := fun h => T1'.own.there (hnew _ (.inl h))
 have off33 : m14 ∉ blkOf x33 := fun h => T1'.own.there (hnew _ (.inr h))
 have f031 := f029.trans f31
 refine ⟨x32, x33, rfl, fun s _ => s31 = s, ⟨fun c s _ => c = false ∧ s31 = s, ?_, ?_⟩, ?_⟩
 ·exact bsel_of (fun c => by simp at c) fun _ => bsel_of (fun c => by simp at c) fun _ => ⟨0, rfl, rfl⟩
 ·rintro _ _ _ ⟨rfl, rfl⟩
  exact bsel_of (fun c => by simp at c) fun _ => ⟨0, rfl⟩
 rintro _ _ rfl
 have rK : ∀ c, c ∈ K ++ G → c.Rng := fun c hc => rA c (pA.mem_iff.2 hc)
 have rKC : ∀ c, c ∈ K ++ C → c.Rng := fun c hc => rB c (pB.mem_iff.2 hc)
 refine ⟨fun n s48 m => ∃ (i : Nat) (z : AV), n = i ∧ m = G.length - i ∧ i ≤ G.length ∧ TC s48 m14 (sumT .zero (K ++ G.drop i)) z ∧ m27 ∉ blkOf z ∧ Frw [m14] s31 s48 ∧ Fr s48, ⟨_, 0, z1, rfl, rfl, by omega, ?_, z1off, .refl _ _, hfr31⟩, ?_⟩
 ·rw [List.drop_zero, ← sumT_perm pA Tal.zero_rng Tal.zero_ok rA]
  exact T1'.ext f31
 have T2' := T2.ext f31
 rintro _ s48 m49 ⟨i, z, rfl, hm, hi, hT, hz27, f48, hfr48⟩
 have hG48 : Sl callE s48 x32 G := hG.beside f48 fun c hc => .inr (by simp at hc; rw [hc]; exact off32)
 refine hG48.slen (bsel_of (fun c => ?_) fun c => ?_)
 ·have c : i < G.length := by simpa using c
  intro s51 hBu
  have hT51 := hT.ext hBu.fwd
  have hci : G[i].Rng := rK _ (by simp)
  have hdr : ∀ c, c ∈ K ++ G.drop i → c.Rng := fun c hc => rK c (by
   rcases List.mem_append.1 hc with h | h
   ·simp [h]
   ·simp [List.mem_of_mem_drop h])
  obtain ⟨hR, hO⟩ := sumT_fine (t := .zero) Tal.zero_rng Tal.zero_ok hdr
  refine ⟨_, _, _, _, _, _, z, hT51.own.all rfl, (hG48.ext hBu.fwd).ixs rfl rfl c fun b o hRd => ⟨_, _, _, _, _, hRd.all rfl, (One_ok hci).gro.mono ?_⟩⟩
  rintro _ s67 ⟨⟨⟨⟨y', rfl, hy', hgy⟩, f67⟩, hfr67⟩, g67⟩
  have hT67 := hT51.ext f67
  refine ⟨_, _, _, _, _, _, y', rfl, hT67.own.all rfl, (Minus_okS hT67.sl hy' hR (oneT_rng hci)).gro.mono ?_⟩
  rintro v s76 ⟨⟨⟨hv, f76⟩, hfr76⟩, g76⟩
  have hperm : (K ++ G.drop i).Perm ((K ++ G.drop (i + 1)) ++ [G[i]]) := by
   rw [List.drop_eq_getElem_cons c]
   refine (List.perm_middle).trans ?_
   exact (List.perm_append_singleton _ _).symm
  have hto := take_one hdr hperm (by rw [List.length_append, List.length_drop]; omega)
  rw [if_pos ⟨hO, oneT_ok hci⟩, hto] at hv
  obtain ⟨z', rfl, hz', hgz⟩ := hv
  obtain ⟨s46, q1, q2, s69, q3, q4, q5, q6, q7⟩ := tail_ok hBu (g67.trans g76) (f67.trans f76) (hT67.own.ext f76) rfl hz'.1.sl (hgz.back f67) hT.own.there
  exact ⟨_, _, _, _, _, _, z', 0, rfl, s46, q1, bsel_of (fun c => by simp at c) fun _ => ⟨_, _, _, _, _, _, z', q2, s69, q3, G.length - (i + 1), by omega, i + 1, z', wr_succ (by omega), rfl, by omega, q4, q5 _ ((T2'.fwd f48 (by simpa using e1427.symm) (by simpa using z2off)).own.there), f48.trans q6, q7⟩⟩
 have c : i = G.length := by simp at c; omega
 subst c
 rw [List.drop_length, List.append_nil] at hT
 refine ⟨fun n s98 m => ∃ (i : Nat) (z : AV), n = i ∧ m = C.length - i ∧ i ≤ C.length ∧ TC s98 m14 (sumT .zero (K ++ C.take i)) z ∧ m27 ∉ blkOf z ∧ Frw [m14] s31 s98 ∧ Fr s98, ⟨_, 0, z, rfl, rfl, by omega, by rw [List.take_zero, List.append_nil]; exact hT, hz27, f48, hfr48⟩, ?_⟩
 clear hT hz27 f48 hfr48 hG48 hm hi
 rintro _ s98 m99 ⟨i, z, rfl, hm, hi, hT, hz27, f98, hfr98⟩
 have hC98 : Sl callE s98 x33 C := hC.beside f98 fun c hc => .inr (by simp at hc; rw [hc]; exact off33)
 have T298 := T2'.fwd f98 (by simpa using e1427.symm) (by simpa using z2off)
 refine hC98.slen (bsel_of (fun c => ?_) fun c => ?_)
 ·have c : i < C.length := by simpa using c
  intro s51 hBu
  have hT51 := hT.ext hBu.fwd
  have hci : C[i].Rng := rKC _ (by simp)
  have hdr : ∀ c, c ∈ K ++ C.take i → c.Rng := fun c hc => rKC c (by
   rcases List.mem_append.1 hc with h | h
   ·simp [h]
   ·simp [List.mem_of_mem_take h])
  obtain ⟨hR, hO⟩ := sumT_fine (t := .zero) Tal.zero_rng Tal.zero_ok hdr
  refine ⟨_, _, _, _, _, _, z, hT51.own.all rfl, (hC98.ext hBu.fwd).ixs rfl rfl c fun b o hRd => ⟨_, _, _, _, _, hRd.all rfl, (One_ok hci).gro.mono ?_⟩⟩
  rintro _ s67 ⟨⟨⟨⟨y', rfl, hy', hgy⟩, f67⟩, hfr67⟩, g67⟩
  have hT67 := hT51.ext f67
  refine ⟨_, _, _, _, _, _, y', rfl, hT67.own.all rfl, (Plus_okS hT67.sl hy' hR (oneT_rng hci)).gro.mono ?_⟩
  rintro v s76 ⟨⟨⟨hv, f76⟩, hfr76⟩, g76⟩
  rw [if_pos ⟨hO, oneT_ok hci⟩, ← sumT_snoc, List.append_assoc, List.take_append_getElem c] at hv
  obtain ⟨z', rfl, hz', hgz⟩ := hv
  obtain ⟨s46, q1, q2, s69, q3, q4, q5, q6, q7⟩ := tail_ok hBu (g67.trans g76) (f67.trans f76) (hT67.own.ext f76) rfl hz'.1.sl (hgz.back f67) hT.own.there
  exact ⟨_, _, _, _, _, _, z', 0, rfl, s46, q1, bsel_of (fun c => by simp at c) fun _ => ⟨_, _, _, _, _, _, z', q2, s69, q3, C.length - (i + 1), by omega, i + 1, z', wr_succ (by omega), rfl, by omega, q4, q5 _ T298.own.there, f98.trans q6, q7⟩⟩
 have c : i = C.length := by simp at c; omega
 subst c
 rw [List.take_length, ← sumT_perm pB Tal.zero_rng Tal.zero_ok rB] at hT
 have f098 : Frw [] s2 s98 := f031.step f98 (by simpa using g14)
 have hfin := sumT_fine (t := .zero) Tal.zero_rng Tal.zero_ok rB
 refine ⟨_, _, _, _, _, _, z, hT.own.all rfl, _, _, _, _, _, _, z2, T298.own.all rfl, (sameTally_ok hT.sl T298.sl (by have := okB_len (by omega) hfin.2; omega)).a.mono ?_⟩
 rintro _ s160 ⟨⟨rfl, f160⟩, hfr160⟩
 refine ⟨true, rfl, ?_⟩
 intro m162 s163 h162
 have f0163 := (f098.trans f160).trans h162.fwd
 obtain ⟨x164, s165, q1, q2, q3, q4, q5⟩ := appendAll0 h162.own (hx.ext f0163) ty.sl_api_Call rfl ty.api_Call rfl rfl rfl (fun _ _ => rfl) (show (A.length + A.length / 4 + 600) * 56 ≤ pow48 from Nat.le_trans (Nat.mul_le_mul_right 56 (by omega)) hA) (by unfold pow48 at hA ⊢; omega) h162.fr
 have f0165 := f0163.trans q4
 have hend : ∀ {s169 : St} {M : List CallR}, Sl callE s169 x164 M → M.Perm A → Frw [] s2 s169 → CallsA P F.calls_Delta [x, x164] s169 fun v _ => ∃ g c, v = .tuple [g, c] ∧ slLen g = some 0 ∧ slLen c = some 0 := by
  intro s169 M hM hp f
  refine (Delta_ok (hx.ext f) hM hA (by rw [hp.length_eq]; exact hA)).mono ?_
  rintro _ s' ⟨g, c, G', C', rfl, h1, h2, _, _, h3, _, _⟩
  obtain ⟨rfl, rfl⟩ := h3 hp.symm
  exact ⟨g, c, rfl, h1.len, h2.len⟩
 have hlast : ∀ {x212 x213 : AV} {s211 : St} {W : AV → St → Prop}, slLen x212 = some 0 → slLen x213 = some 0 → W (.bool true) s211 →
   bsel true (slenK x212 fun m214 => bsel (((m214 : Nat) : Int) == 0) (slenK x213 fun m215 => bsel (((m215 : Nat) : Int) == 0) (slenK x32 fun m216 => slenK x33 fun m217 => slenK x fun m218 => slenK y fun m219 => W (.bool ((IntKind.wrap .i64 (((m216 : Nat) : Int) - ((m217 : Nat) : Int))) == (IntKind.wrap .i64 (((m218 : Nat) : Int) - ((m219 : Nat) : Int))))) s211) (W (.bool false) s211)) (W (.bool false) s211)) (W (.bool false) s211) := by
  intro x212 x213 s211 W h1 h2 hW
  refine bsel_of (fun _ => ?_) fun c => by simp at c
  unfold slenK
  simp only [h1, h2]
  refine bsel_of (fun _ => bsel_of (fun _ => ?_) fun c => by simp at c) fun c => by simp at c
  rw [hG.len, hC.len, hx.len, hy.len]
  simp only
  have : ((G.length : Int) - (C.length : Int)) = (A.length : Int) - (B.length : Int) := by omega
  rw [this]
  simpa using hW
 refine ⟨x164, s165, q1, fun n s169 m => ∃ (i : Nat) (M : List CallR), n = i ∧ m = N.length - i ∧ i ≤ N.length ∧ M.Perm A ∧ Sl callE s169 x164 M ∧ (A = [] ∨ So callE s169 x164 M) ∧ Frw [] s2 s169 ∧ Fr s169, ⟨_, 0, A, rfl, rfl, by omega, .refl _, q2, q3.imp_right And.left, f0165, q5⟩, ?_⟩
 have hnew164 : A ≠ [] → ∀ c, c ∈ blkOf x164 → s2.h.get c = none := fun hne c hc => f0163.none ((q3.resolve_left hne).2 c hc) (by simp)
 rintro _ s169 m170 ⟨i, M, rfl, hm, hi, hp, hM, hso, f169, hfr169⟩
 refine (ho.ext f169).slen (bsel_of (fun c => ?_) fun c => ?_)
 ·have c : i < N.length := by simpa using c
  refine hM.slen (bsel_of (fun c1 => ?_) fun c1 => ?_)
  ·have c1 : 0 < M.length := by simpa using c1
   have hne : A ≠ [] := fun e => by
    have := hp.length_eq
    rw [e] at this
    simp at this; rw [this] at c1; simp at c1
   have hso := hso.resolve_left hne
   refine (ho.ext f169).ixs rfl rfl c fun b o hR => ⟨N[i], hR.ld1 0 rfl, hM.slen ((pick_ok (rN _ (List.getElem_mem c)) c1 s169).a.mono ?_)⟩
   rintro _ s178 ⟨⟨k, hk, rfl⟩, rfl⟩
   have hj : i % M.length < M.length := Nat.mod_lt _ c1
   refine ⟨_, rfl, hM.slen ⟨by omega, ?_⟩⟩
   have h0 : RowE callE (fun _ => True) s178 x164 s178 M := ⟨hso, .refl _ _, hfr169, fun _ _ => trivial⟩
   refine h0.rd rfl (k := i % M.length) rfl hj fun b o hR => ⟨_, _, _, _, _, hR.all rfl, ?_⟩
   intro m188 s189 h188
   obtain ⟨s190, w1, o188, f190, w4, w5, w6⟩ := h188.own.wrAll (callF (at' M (i % M.length))) rfl rfl
   have f : Frw [] s178 s190 := h188.fwd.step f190 (by simpa using h188.gone)
   have hfr190 := h188.fr.wr h188.own.there w4 w6
   have h1 : RowE callE (fun _ => True) s190 x164 s190 M := ⟨hso.ext f, .refl _ _, hfr190, fun _ _ => trivial⟩
   have off : m188 ∉ blkOf x164 := fun h => hso.there _ h h188.gone
   refine ⟨s190, w1, h1.rd rfl (k := k) rfl hk fun b o hR => ⟨_, _, _, _, _, hR.all rfl, ?_⟩⟩
   refine h1.wr (fun _ _ => rfl) rfl (k := i % M.length) rfl hj (a := at' M k) trivial fun s200 h200 => ⟨_, _, _, _, _, (o188.fwd h200.frw off).all rfl, ?_⟩
   refine h200.wr (fun _ _ => rfl) rfl (k := k) rfl (by simpa using hk) (a := at' M (i % M.length)) trivial fun s208 h208 => ⟨N.length - (i + 1), by omega, i + 1, _, wr_succ (by omega), rfl, by omega, ?_, h208.so.sl, .inr h208.so, ?_, h208.fr⟩
   ·exact (sw_perm hj hk).trans hp
   ·exact (f169.trans f).step h208.frw (hnew164 hne)
  ·refine (hend hM hp f169).mono ?_
   rintro _ s211 ⟨g, c, rfl, h1, h2⟩
   exact ⟨g, c, rfl, hlast (s211 := s211) (W := fun v _ => v = .bool true) h1 h2 rfl⟩
 ·refine (hend hM hp f169).mono ?_
  rintro _ s211 ⟨g, c, rfl, h1, h2⟩
  exact ⟨g, c, rfl, hlast (s211 := s211) (W := fun v _ => v = .bool true) h1 h2 rfl⟩
end
end Go.Eng.S

namespace Go.Eng.S
open Go Go.Eng Go.Proofs
set_option linter.constructorNameAsVariable false
noncomputable section
set_option maxRecDepth 100000 in
theorem calls_read {H : Type} {enc : TypeId × Value → H} {w : World} {base : Nat} {held : Bool} {fuel : Nat} {v : Value} {x : DataW H × List MemPlace} (h : DataW.trod enc P w base (fun _ => true) held fuel T.sl_api_Call [v] = some x) :
  ∃ (a : AV) (l : List CallR), absV w.heap.size v = some a ∧ Sl callE (stW w) a l ∧ (∀ c, c ∈ l → c.Rng) ∧ l.length ≤ slcLen x.1 := by
 obtain ⟨a, l, h1, h2, h3, _, h5⟩ := slice_read2 callE CallR.Rng h Tryz.underlying48 (by kernel_rfl) fun n cs y hy hl => by
  have hl : cs.length = 5 := hl
  obtain ⟨xs, n, _, _, _, hx, hf⟩ := DataW.trod_struct Tryz.underlying26 hy
  change xs.length = 4 at hx
  have hf' := fun i f (hf0 : _) => hf i f hf0
  have g0 := hf' 0 _ rfl
  have g1 := hf' 1 _ rfl
  have g2 := hf' 2 _ rfl
  have g3 := hf' 3 _ rfl
  rw [List.getElem?_eq_getElem (by omega)] at g0 g1 g2 g3
  change DataW.trod enc P w base (fun _ => true) held n T.int64 (List.take (P.cellsOf T.int64) (List.drop 0 cs)) = _ at g0
  change DataW.trod enc P w base (fun _ => true) held n T.api_Edge (List.take (P.cellsOf T.api_Edge) (List.drop 1 cs)) = _ at g1
  change DataW.trod enc P w base (fun _ => true) held n T.ybool_4 (List.take (P.cellsOf T.ybool_4) (List.drop 3 cs)) = _ at g2
  change DataW.trod enc P w base (fun _ => true) held n T.uint64 (List.take (P.cellsOf T.uint64) (List.drop 4 cs)) = _ at g3
  obtain ⟨hr, e0, _, w0⟩ := DataW.trod_int Tryz.underlying2 g0
  obtain ⟨xs1, n1, _, _, hl1, hx1, hf1⟩ := DataW.trod_struct Tryz.underlying23 g1
  obtain ⟨bd, e2, _⟩ := DataW.trod_bool Tryz.underlying4 g2
  obtain ⟨sf, e3, _, w3⟩ := DataW.trod_int Tryz.underlying24 g3
  rw [show P.cellsOf T.int64 = 1 by kernel_rfl] at e0
  rw [show P.cellsOf T.ybool_4 = 1 by kernel_rfl] at e2
  rw [show P.cellsOf T.uint64 = 1 by kernel_rfl] at e3
  change xs1.length = 2 at hx1
  have k0 := hf1 0 _ rfl
  have k1 := hf1 1 _ rfl
  rw [List.getElem?_eq_getElem (by omega)] at k0 k1
  rw [show P.cellsOf T.api_Edge = 2 by kernel_rfl] at k0 k1
  change DataW.trod enc P w base (fun _ => true) held n1 T.ystring_9 (List.take (P.cellsOf T.ystring_9) (List.drop 0 (List.take 2 (List.drop 1 cs)))) = _ at k0
  change DataW.trod enc P w base (fun _ => true) held n1 T.ystring_9 (List.take (P.cellsOf T.ystring_9) (List.drop 1 (List.take 2 (List.drop 1 cs)))) = _ at k1
  obtain ⟨s0, e4, _, _⟩ := DataW.trod_string Tryz.underlying9 k0
  obtain ⟨s1, e5, _, _⟩ := DataW.trod_string Tryz.underlying9 k1
  rw [show P.cellsOf T.ystring_9 = 1 by kernel_rfl] at e4 e5
  obtain ⟨v0, v1, v2, v3, v4, rfl⟩ : ∃ v0 v1 v2 v3 v4, cs = [v0, v1, v2, v3, v4] := by
   match cs, hl with
   | [v0, v1, v2, v3, v4], _ => exact ⟨v0, v1, v2, v3, v4, rfl⟩
  simp at e0 e2 e3 e4 e5
  subst e0; subst e2; subst e3; subst e4; subst e5
  have h1 := bounds_i64 w0
  have h2 := bounds_u64 w3
  refine ⟨⟨hr, (s0, s1), bd, sf⟩, ⟨⟨h1.1, show hr < _ by omega⟩, h2.1, h2.2⟩, fun j hj => ?_⟩
  match j, hj with
  | 0, _ => exact ⟨_, _, rfl, rfl, rfl⟩
  | 1, _ => exact ⟨_, _, rfl, rfl, rfl⟩
  | 2, _ => exact ⟨_, _, rfl, rfl, rfl⟩
  | 3, _ => exact ⟨_, _, rfl, rfl, rfl⟩
  | 4, _ => exact ⟨_, _, rfl, rfl, rfl⟩
 exact ⟨a, l, h1, h2, h3, h5⟩
theorem ints_read {H : Type} {enc : TypeId × Value → H} {w : World} {base : Nat} {held : Bool} {fuel : Nat} {v : Value} {x : DataW H × List MemPlace} (h : DataW.trod enc P w base (fun _ => true) held fuel T.sl_int [v] = some x) :
  ∃ (a : AV) (l : List Int), absV w.heap.size v = some a ∧ Sl (oneE intV) (stW w) a l ∧ (∀ n, n ∈ l → -9223372036854775808 ≤ n ∧ n < 9223372036854775808) ∧ l.length ≤ slcLen x.1 := by
 obtain ⟨a, l, h1, h2, h3, _, h4⟩ := slice_read2 (oneE intV) (fun n => -9223372036854775808 ≤ n ∧ n < 9223372036854775808) h Tryz.underlying55 (by kernel_rfl) fun n cs y hy hl => by
  obtain ⟨hr, e0, _, w0⟩ := DataW.trod_int Tryz.underlying3 hy
  have h1 := bounds_i64 w0
  subst e0
  refine ⟨hr, ⟨h1.1, show hr < _ by omega⟩, fun j hj => ?_⟩
  have hj : j < 1 := hj
  obtain rfl : j = 0 := by omega
  exact ⟨_, _, rfl, rfl, rfl⟩
 exact ⟨a, l, h1, h2, h3, h4⟩
theorem CallsTurned_walk {H : Type} {enc : TypeId × Value → H} {w : World} {base : Nat} {held : Bool} {f0 f1 f2 : Nat} {v0 v1 v2 : Value} {x0 x1 x2 : DataW H × List MemPlace} (h0 : DataW.trod enc P w base (fun _ => true) held f0 T.sl_api_Call [v0] = some x0) (h1 : DataW.trod enc P w base (fun _ => true) held f1 T.sl_api_Call [v1] = some x1) (h2 : DataW.trod enc P w base (fun _ => true) held f2 T.sl_int [v2] = some x2)
  (hs0 : slcLen x0.1 * 56 ≤ 140737488351232) (hs1 : slcLen x1.1 * 56 ≤ 140737488351232) (hs2 : slcLen x2.1 * 8 ≤ 140737488351232) :
  Calls P F.spoorlaw14_CallsTurned #[v0, v1, v2] w fun e w' => e = .returned (.bool true) ∧ Kept w w' := by
 obtain ⟨a, A, a1, a2, a3, a4⟩ := calls_read h0
 obtain ⟨b, B, b1, b2, b3, b4⟩ := calls_read h1
 obtain ⟨c, N, c1, c2, c3, c4⟩ := ints_read h2
 exact CallsA.top (CallsTurned_ok a2 b2 c2 a3 b3 c3 (by unfold pow48; omega) (by unfold pow48; omega) (by omega)) (.cons (absV_ok a1) (.cons (absV_ok b1) (.cons (absV_ok c1) .nil)))
end
end Go.Eng.S

