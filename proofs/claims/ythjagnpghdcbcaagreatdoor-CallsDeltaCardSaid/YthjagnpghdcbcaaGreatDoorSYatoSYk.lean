/-
  Calls; lists that are handed on one by one.
  The order of calls, in plain text.
  The order of calls; their sort.
  What 'Delta' says.
  'Delta'.
  A call's tally.
  The sum of calls' tallies.
  What was put together from single calls is taken apart; sums hang on no order: plain laws.
  Tallies that are one; which of so many; calls that are put in another order.
  'CallsTurned': the walk.
  'CallsTurned': calls as a row hands them in; the walk.
-/
import Derived.Test.YthjagnpghdcbcaaGreatDoorSVatoSVj
import Derived.Test.YthjagnpghdcbcaaGreatDoorW15to27
import Derived.Test.YthjagnpghdcbcaaGreatDoorSYstoSPi
import Derived.Test.YthjagnpghdcbcaaGreatDoorSPe
import Derived.Test.YthjagnpghdcbcaaGreatDoorW13to14
namespace Go.Eng.S
open Go Go.Eng Go.Proofs
set_option linter.constructorNameAsVariable false
set_option maxRecDepth 4000
noncomputable section
attribute [local irreducible] bsel callK itK
structure CallR where
 hour : Int
 edge : SS
 failed : Bool
 took : Int
deriving DecidableEq
instance : Inhabited CallR := ⟨⟨0, (ByteArray.empty, ByteArray.empty), false, 0⟩⟩
def callF (c : CallR) : List AV := [.int .i64 c.hour, .str c.edge.1, .str c.edge.2, .bool c.failed, .int .u64 c.took]
def callE : Enc CallR := ⟨callF, 5, by decide, fun _ => rfl⟩
theorem Values_ok {s : St} {a : AV} {l : List CallR} (ha : Sl callE s a l) : CallsD P F.slices_Values_sl_api_Call_api_Call [a] s fun v s' => (∃ m, v = .func F.slices_Values_sl_api_Call_api_Call__S1 [] [.ptr m 0] ∧ Own s' m [a] ∧ s.h.get m = none ∧ Frw [] s s') ∧ Fr s' := by
 refine CallsD.of fun hfr => vc.slices_Values_sl_api_Call_api_Call_ok (ha.one ?_)
 intro m1 s2 h2
 exact ⟨m1, rfl, h2.own, h2.gone, h2.fwd⟩
theorem Values_seq {s0 : St} {a : AV} {l : List CallR} {m : Nat} (ha : Sl callE s0 a l) (hm : Own s0 m [a]) (hsz : l.length < 4611686018427387904) :
  SeqA P D (m :: blkOf a) s0 (.func F.slices_Values_sl_api_Call_api_Call__S1 [] [.ptr m 0]) l.length fun i => [.agg (callF (at' l i))] := by
 intro lb s M0 M J K f0 hfr hM0 hM h0 hround hst hK
 refine itK_of (fi := fnI Tryz.f70) (by kernel_rfl) ?_
 show CallsA P F.slices_Values_sl_api_Call_api_Call__S1 [.yld lb, .ptr m 0] s _
 refine vc.slices_Values_sl_api_Call_api_Call__S1_ok ?_
 have hm' := hm.fwd f0 fun h => hM0 m h (by simp)
 have ha' := ha.beside f0 fun c hc => .inr fun h => hM0 c hc (by simp [h])
 refine ⟨a, hm'.ld1 0 rfl, ha'.slen ⟨fun n s1 k => ∃ i : Nat, n = i ∧ k = l.length - i ∧ i ≤ l.length ∧ J i s1 ∧ Frw M s s1 ∧ Fr s1, ⟨_, 0, rfl, rfl, by omega, h0, .refl _ _, hfr⟩, ?_⟩⟩
 rintro _ s6 m7 ⟨i, rfl, hm7, hi, hJ, f6, hfr6⟩
 refine bsel_of (fun c => ?_) fun c => ?_
 ·have c : i < l.length := by simpa using c
  have ha6 := ha'.beside f6 fun c hc => .inr fun h => hM c hc (by simp [h])
  refine ha6.ixs rfl rfl c fun b o hR => ⟨_, _, _, _, _, hR.all rfl, ?_⟩
  intro m15 s16 h16
  obtain ⟨s17, w, o15, f17, w4, w5, w6⟩ := h16.own.wrAll (callF l[i]) rfl rfl
  have f617 : Frw [] s6 s17 := h16.fwd.step f17 (by simpa using h16.gone)
  refine ⟨s17, w, _, _, _, _, _, o15.all rfl, callK_yld ?_⟩
  have hr : RoundA P lb [.agg (callF (at' l i))] s17 _ := hround i s17 c (hst _ _ _ hJ f617) (f6.trans (f617.mono (by simp))) (h16.fr.wr h16.own.there w4 w6)
  rw [← at_eq c] at hr
  refine hr.mono ?_
  rintro _ s24 ⟨rfl, hJ', f24, hfr24⟩
  exact ⟨true, rfl, bsel_of (fun c => by simp at c) fun _ => ⟨l.length - (i + 1), by omega, i + 1, wr_succ (by omega), rfl, by omega, hJ', f24, hfr24⟩⟩
 ·have c : i = l.length := by simp at c; omega
  subst c
  exact hK s6 hJ f6 hfr6
set_option maxHeartbeats 1000000 in
theorem AppendSeq_ok {s : St} {x0 f : AV} {L0 xs : List CallR} {B : List Nat} (hx : So callE s x0 L0) (hs : SeqA P D B s f xs.length fun i => [.agg (callF (at' xs i))]) (hB : ∀ c, c ∈ B → c ∉ blkOf x0) (hB2 : ∀ c, c ∈ B → s.h.get c ≠ none)
  (hlen : ((L0 ++ xs).length + 1 + ((L0 ++ xs).length + 1) / 4 + 600) * 56 ≤ pow48) :
  CallsA P F.slices_AppendSeq_sl_api_Call_api_Call [x0, f] s fun v s' => So callE s' v (L0 ++ xs) ∧ (∀ c, c ∈ blkOf v → c ∈ blkOf x0 ∨ s.h.get c = none) ∧ Frw (blkOf x0) s s' ∧ Fr s' := by
 refine CallsA.fr fun hfr => vc.slices_AppendSeq_sl_api_Call_api_Call_ok (hx.sl.one ?_)
 intro m1 s2 h2 m3 s4 h4 lo m6 s7 h7 hr
 have f27 : Frw [] s s7 := (h2.fwd.trans h4.fwd).trans h7.fwd
 have n13 : m1 ≠ m3 := h4.ne h2.own.there
 have n16 : m1 ≠ m6 := h7.ne (h2.own.ext h4.fwd).there
 have g3 : objAt s4 m3 = some (.dfd true) := h4.at
 have n36 : m3 ≠ m6 := h7.ne (by show objAt s4 m3 ≠ none; rw [g3]; simp)
 have hx0 : ∀ c, c ∈ blkOf x0 → s.h.get c ≠ none := fun c hc => by
  have := hx.there c hc
  exact this
 have q1 : m1 ∉ blkOf x0 := fun h => hx0 _ h h2.gone
 have q3 : m3 ∉ blkOf x0 := fun h => hx0 _ h (h2.fwd.none h4.gone (by simp))
 have q6 : m6 ∉ blkOf x0 := fun h => hx0 _ h ((h2.fwd.trans h4.fwd).none h7.gone (by simp))
 have hlast : ∀ s1, (∃ x, Own s1 m1 [x] ∧ objAt s1 m6 = some (lo none .ready) ∧ objAt s1 m3 = some (.dfd true) ∧ So callE s1 x (L0 ++ xs.take xs.length) ∧ ∀ c, c ∈ blkOf x → c ∈ blkOf x0 ∨ s7.h.get c = none) → Frw (m1 :: m6 :: blkOf x0) s7 s1 → Fr s1 →
   objAt s1 m6 = some (lo none .ready) ∧ ∃ x32, ld1 (hsetS s1 m6 (lo none .exhausted)) (.ptr m1 0) = some x32 ∧ ∃ s33, endDs (hsetS s1 m6 (lo none .exhausted)) [m3] = some s33 ∧ So callE s33 x32 (L0 ++ xs) ∧ (∀ c, c ∈ blkOf x32 → c ∈ blkOf x0 ∨ s.h.get c = none) ∧ Frw (blkOf x0) s s33 ∧ Fr s33 := by
  rintro s1 ⟨x, o1, o6, o3, hso, hbx⟩ f1 hfr1
  rw [List.take_length] at hso
  have d6 : m6 ∉ blkOf x := fun h => (hbx _ h).elim q6 fun e => by
   have := h7.at; unfold objAt at this; rw [e] at this; simp at this
  have d3 : m3 ∉ blkOf x := fun h => (hbx _ h).elim q3 fun e => by
   have := objAt_fwd g3 h7.fwd (by simp); unfold objAt at this; rw [e] at this; simp at this
  have o3' : objAt (hsetS s1 m6 (lo none .exhausted)) m3 = some (.dfd true) := by rw [objAt_ne n36]; exact o3
  refine ⟨o6, x, (o1.fwd hsetS_frw (by simpa using n16)).ld1 0 rfl, _, endDs_one o3', ?_, fun c hc => ?_, ?_, objAt_fr o3' (objAt_fr o6 hfr1)⟩
  ·exact (hso.beside hsetS_frw (fun c hc => by have : c = m6 := by simpa using hc
                                               rw [this]; exact d6)).beside hsetS_frw fun c hc => by
    have : c = m3 := by simpa using hc
    rw [this]; exact d3
  ·rcases hbx c hc with h | h
   ·exact .inl h
   ·exact .inr (f27.none h (by simp))
  ·have z1 : Frw (blkOf x0) s s1 := (f27.mono (by simp)).go f1 fun c hc => by
    rcases List.mem_cons.1 hc with rfl | hc
    ·exact .inr h2.gone
    ·rcases List.mem_cons.1 hc with rfl | hc
     ·exact .inr ((h2.fwd.trans h4.fwd).none h7.gone (by simp))
     ·exact .inl hc
   refine (z1.go hsetS_frw fun c hc => ?_).go hsetS_frw fun c hc => ?_
   ·have : c = m6 := by simpa using hc
    rw [this]; exact .inr ((h2.fwd.trans h4.fwd).none h7.gone (by simp))
   ·have : c = m3 := by simpa using hc
    rw [this]; exact .inr (h2.fwd.none h4.gone (by simp))
 refine hs.fwd f27 (by simp) m6 s7 [] (m1 :: m6 :: blkOf x0) (fun i s1 => ∃ x, Own s1 m1 [x] ∧ objAt s1 m6 = some (lo none .ready) ∧ objAt s1 m3 = some (.dfd true) ∧ So callE s1 x (L0 ++ xs.take i) ∧ ∀ c, c ∈ blkOf x → c ∈ blkOf x0 ∨ s7.h.get c = none) _ (.refl _ _) h7.fr (by simp) (fun c hc hb => ?_) ?_ ?_ ?_ hlast
 ·rcases List.mem_cons.1 hc with rfl | hc
  ·exact hB2 _ hb h2.gone
  ·rcases List.mem_cons.1 hc with rfl | hc
   ·exact hB2 _ hb ((h2.fwd.trans h4.fwd).none h7.gone (by simp))
   ·exact hB c hb hc
 ·exact ⟨x0, (h2.own.ext h4.fwd).ext h7.fwd, h7.at, objAt_fwd g3 h7.fwd (by simp), by rw [List.take_zero, List.append_nil]; exact hx.ext f27, fun c hc => .inl hc⟩
 ·-- a round
  rintro i s1 hi ⟨x, o1, o6, o3, hso, hbx⟩ f1 hfr1
  have d6 : m6 ∉ blkOf x := fun h => (hbx _ h).elim q6 fun e => by
   have := h7.at; unfold objAt at this; rw [e] at this; simp at this
  have d3 : m3 ∉ blkOf x := fun h => (hbx _ h).elim q3 fun e => by
   have := objAt_fwd g3 h7.fwd (by simp); unfold objAt at this; rw [e] at this; simp at this
  have d1 : m1 ∉ blkOf x := fun h => (hbx _ h).elim q1 fun e => (((h2.own.ext h4.fwd).ext h7.fwd).there e)
  refine hr _ _ _ _ _ s1 _ o6 ?_
  intro m15 s16 h16
  obtain ⟨s17, w, o15, f17, w4, w5, w6⟩ := h16.own.wrAll (callF (at' xs i)) rfl rfl
  have f117 : Frw [] s1 s17 := h16.fwd.step f17 (by simpa using h16.gone)
  have hfr17 := h16.fr.wr h16.own.there w4 w6
  have p6 : objAt s17 m6 = some (lo none .ready) := objAt_fwd o6 f117 (by simp)
  have n15 : m15 ≠ m6 := fun e => by
   have := h16.gone; rw [e] at this; unfold objAt at o6; rw [this] at o6; simp at o6
  refine ⟨s17, w, p6, x, ((o1.ext f117).fwd hsetS_frw (by simpa using n16)).ld1 0 rfl, _, _, _, _, _, (o15.fwd hsetS_frw (by simpa using n15)).all rfl, ?_⟩
  intro m24 s25 h25
  have hso25 : So callE s25 x (L0 ++ xs.take i) := ((hso.ext f117).beside hsetS_frw fun c hc => by
   have : c = m6 := by simpa using hc
   rw [this]; exact d6).ext h25.fwd
  have hln : (L0 ++ xs.take i).length ≤ (L0 ++ xs).length := by simp only [List.length_append, List.length_take]; omega
  obtain ⟨x26, s27, k1, k2, k3, k4, k5, k6⟩ := So.append' (a := at' xs i) hso25 ty.sl_api_Call rfl ty.api_Call rfl rfl rfl rfl h25.own.rd rfl (Nat.le_trans (Nat.mul_le_mul_right 56 (by omega)) hlen) (by unfold pow48 at hlen ⊢; omega) h25.fr
  have o1' : Own s27 m1 [x] := (((o1.ext f117).fwd hsetS_frw (by simpa using n16)).ext h25.fwd).fwd k3 d1
  obtain ⟨s28, y1, o1'', f28, y4, y5, y6⟩ := o1'.wrAll [x26] (k2.sl.onesx []) rfl
  have e6 : objAt s28 m6 = some (lo none .busy) := objAt_fwd (objAt_fwd (objAt_fwd objAt_set h25.fwd (by simp)) k3 d6) f28 (by simpa using n16.symm)
  have e3 : objAt s28 m3 = some (.dfd true) := objAt_fwd (objAt_fwd (objAt_fwd (by rw [objAt_ne n36]; exact objAt_fwd o3 f117 (by simp)) h25.fwd (by simp)) k3 d3) f28 (by simpa using n13.symm)
  have hbx' : ∀ c, c ∈ blkOf x26 → c ∈ blkOf x0 ∨ s7.h.get c = none := fun c hc => by
   rw [k4] at hc
   have hc : c = s25.nx := by simpa using hc
   right
   have z : s25.h.get c = none := by rw [hc]; exact h25.fr _ (Nat.le_refl _)
   have z1 := h25.fwd.none z (by simp)
   have z2 : s17.h.get c = none := by
    refine Classical.byContradiction fun hn => hn ?_
    by_cases e : c = m6
    ·have := objAt_set (s := s17) (l := m6) (o := lo none .busy)
     unfold objAt at this
     rw [← e] at this
     rw [← e] at z1
     rw [this] at z1; simp at z1
    ·have := objAt_ne (s := s17) (o := lo none .busy) e
     unfold objAt at this
     rw [← this]; exact z1
   have z3 := f117.none z2 (by simp)
   refine Classical.byContradiction fun hn => ?_
   cases e : s7.h.get c with
   | none => exact hn e
   | some o =>
    have hM : c ∈ m1 :: m6 :: blkOf x0 := Classical.byContradiction fun hm => by
     have := f1.1 c o hm e
     rw [z3] at this; simp at this
    rcases List.mem_cons.1 hM with rfl | hM
    ·exact o1.there z3
    ·rcases List.mem_cons.1 hM with rfl | hM
     ·unfold objAt at o6; rw [z3] at o6; simp at o6
     ·exact hx0 c hM (by
       have hlt := Classical.byContradiction fun hg => hx0 c hM (hfr c (Nat.le_of_not_lt hg))
       have hge : s25.nx ≤ c := by omega
       have := f27.2.1; have := f1.2.1; have := f117.2.1; have := h25.fwd.2.1
       have : s17.nx ≤ s25.nx := this
       omega)
  have hfr28 : Fr s28 := k5.wr o1'.there y4 y6
  have fall : Frw (m1 :: m6 :: blkOf x0) s7 (hsetS s28 m6 (lo none .ready)) := by
   refine ((((f1.go f117 (by simp)).go (hsetS_frw (b := m6) (o := lo none .busy)) fun c hc => .inl (by simp at hc; simp [hc])).go h25.fwd (by simp)).go k3 fun c hc => ?_).go f28 (fun c hc => .inl (by simp at hc; simp [hc])) |>.go hsetS_frw fun c hc => .inl (by simp at hc; simp [hc])
   rcases hbx c hc with h | h
   ·exact .inl (by simp [h])
   ·exact .inr h
  have dx6 : m6 ∉ blkOf x26 := fun h => (hbx' _ h).elim q6 fun e => by
   have := h7.at; unfold objAt at this; rw [e] at this; simp at this
  have dx1 : m1 ∉ blkOf x26 := fun h => (hbx' _ h).elim q1 fun e => (((h2.own.ext h4.fwd).ext h7.fwd).there e)
  refine ⟨x26, s27, k1, k2.sl.one ⟨s28, y1, e6, rfl, ⟨x26, o1''.fwd hsetS_frw (by simpa using n16), objAt_set, by rw [objAt_ne n36]; exact e3, ?_, hbx'⟩, fall, objAt_fr e6 hfr28⟩⟩
  have hk : So callE s28 x26 (L0 ++ xs.take (i + 1)) := by
   rw [← List.take_append_getElem hi, ← List.append_assoc, at_eq hi]
   exact k2.beside f28 fun c hc => by
    have : c = m1 := by simpa using hc
    rw [this]; exact dx1
  exact hk.beside hsetS_frw fun c hc => by
   have : c = m6 := by simpa using hc
   rw [this]; exact dx6
 ·rintro i s1 s2 ⟨x, o1, o6, o3, hso, hbx⟩ f
  exact ⟨x, o1.ext f, objAt_fwd o6 f (by simp), objAt_fwd o3 f (by simp), hso.ext f, hbx⟩
end
end Go.Eng.S

namespace Go.Eng.S
open Go Go.Eng Go.Proofs
noncomputable section
def cmpI (a b : Int) : Int := if a < b then -1 else if a > b then 1 else 0
def or4 (x y z w : Int) : Int := if x ≠ 0 then x else if y ≠ 0 then y else if z ≠ 0 then z else w
def cmpCall (a b : CallR) : Int :=
 if a = b then 0 else if a.failed ≠ b.failed ∧ a.hour = b.hour ∧ a.edge = b.edge then (if b.failed = true then -1 else 1)
 else or4 (cmpI a.hour b.hour) (cmpS a.edge.1 b.edge.1) (cmpS a.edge.2 b.edge.2) (cmpI a.took b.took)
def ltCall (a b : CallR) : Prop := a.hour < b.hour ∨ (a.hour = b.hour ∧ (ssLt a.edge b.edge = true ∨ (a.edge = b.edge ∧ ((a.failed = false ∧ b.failed = true) ∨ (a.failed = b.failed ∧ a.took < b.took)))))
theorem ltCall_irrefl (a : CallR) : ¬ ltCall a a := by
 rintro (h | ⟨_, h | ⟨_, ⟨h1, h2⟩ | ⟨_, h⟩⟩⟩)
 ·omega
 ·rw [ssLt_irrefl] at h; simp at h
 ·rw [h1] at h2; simp at h2
 ·omega
theorem ltCall_trans {a b c : CallR} (h : ltCall a b) (h' : ltCall b c) : ltCall a c := by
 rcases h with h | ⟨e, h⟩
 ·rcases h' with h' | ⟨e', _⟩
  ·exact .inl (by omega)
  ·exact .inl (by omega)
 ·rcases h' with h' | ⟨e', h'⟩
  ·exact .inl (by omega)
  ·refine .inr ⟨by omega, ?_⟩
   rcases h with h | ⟨g, h⟩
   ·rcases h' with h' | ⟨g', _⟩
    ·exact .inl (ssLt_trans h h')
    ·exact .inl (by rw [← g']; exact h)
   ·rcases h' with h' | ⟨g', h'⟩
    ·exact .inl (by rw [g]; exact h')
    ·refine .inr ⟨g.trans g', ?_⟩
     rcases h with ⟨h1, h2⟩ | ⟨h1, h2⟩ <;> rcases h' with ⟨k1, k2⟩ | ⟨k1, k2⟩
     ·rw [h2] at k1; simp at k1
     ·exact .inl ⟨h1, by rw [← k1]; exact h2⟩
     ·exact .inl ⟨by rw [h1]; exact k1, k2⟩
     ·exact .inr ⟨h1.trans k1, by omega⟩
theorem ltCall_total (a b : CallR) : ltCall a b ∨ a = b ∨ ltCall b a := by
 rcases Int.lt_trichotomy a.hour b.hour with h | h | h
 ·exact .inl (.inl h)
 ·cases h1 : ssLt a.edge b.edge with
  | true => exact .inl (.inr ⟨h, .inl h1⟩)
  | false =>
   cases h2 : ssLt b.edge a.edge with
   | true => exact .inr (.inr (.inr ⟨h.symm, .inl h2⟩))
   | false =>
    have e := ssLt_total h1 h2
    rcases Int.lt_trichotomy a.took b.took with t | t | t <;> cases f1 : a.failed <;> cases f2 : b.failed
    ·exact .inl (.inr ⟨h, .inr ⟨e, .inr ⟨by rw [f1, f2], t⟩⟩⟩)
    ·exact .inl (.inr ⟨h, .inr ⟨e, .inl ⟨f1, f2⟩⟩⟩)
    ·exact .inr (.inr (.inr ⟨h.symm, .inr ⟨e.symm, .inl ⟨f2, f1⟩⟩⟩))
    ·exact .inl (.inr ⟨h, .inr ⟨e, .inr ⟨by rw [f1, f2], t⟩⟩⟩)
    ·exact .inr (.inl (by cases a; cases b; simp_all))
    ·exact .inl (.inr ⟨h, .inr ⟨e, .inl ⟨f1, f2⟩⟩⟩)
    ·exact .inr (.inr (.inr ⟨h.symm, .inr ⟨e.symm, .inl ⟨f2, f1⟩⟩⟩))
    ·exact .inr (.inl (by cases a; cases b; simp_all))
    ·exact .inr (.inr (.inr ⟨h.symm, .inr ⟨e.symm, .inr ⟨by rw [f1, f2], t⟩⟩⟩))
    ·exact .inl (.inr ⟨h, .inr ⟨e, .inl ⟨f1, f2⟩⟩⟩)
    ·exact .inr (.inr (.inr ⟨h.symm, .inr ⟨e.symm, .inl ⟨f2, f1⟩⟩⟩))
    ·exact .inr (.inr (.inr ⟨h.symm, .inr ⟨e.symm, .inr ⟨by rw [f1, f2], t⟩⟩⟩))
 ·exact .inr (.inr (.inl h))
theorem cmpI_lt (a b : Int) : cmpI a b < 0 ↔ a < b := by unfold cmpI; split <;> (try split) <;> omega
theorem cmpI_zero (a b : Int) : cmpI a b = 0 ↔ a = b := by unfold cmpI; split <;> (try split) <;> omega
theorem cmpS_ltI (a b : ByteArray) : cmpS a b < 0 ↔ sLt a b = true := by
 unfold cmpS
 split
 ·rename_i h; simp [h]
 ·rename_i h
  split <;> simp [h]
theorem cmpS_zero (a b : ByteArray) : cmpS a b = 0 ↔ a = b := by
 unfold cmpS
 split
 ·rename_i h
  refine ⟨fun h => by omega, ?_⟩
  rintro rfl
  rw [sLt_irrefl] at h; simp at h
 ·split <;> simp_all
theorem or4_lt {x y z w : Int} : or4 x y z w < 0 ↔ x < 0 ∨ (x = 0 ∧ (y < 0 ∨ (y = 0 ∧ (z < 0 ∨ (z = 0 ∧ w < 0))))) := by
 unfold or4
 split
 ·omega
 ·split
  ·omega
  ·split <;> omega
theorem or4_zero {x y z w : Int} : or4 x y z w = 0 ↔ x = 0 ∧ y = 0 ∧ z = 0 ∧ w = 0 := by
 unfold or4
 split
 ·omega
 ·split
  ·omega
  ·split <;> omega
theorem ssLt_iff (a b : SS) : ssLt a b = true ↔ sLt a.1 b.1 = true ∨ (a.1 = b.1 ∧ sLt a.2 b.2 = true) := by
 unfold ssLt
 by_cases e : a.1 = b.1
 ·rw [if_pos e, e, sLt_irrefl]; simp
 ·rw [if_neg e]; simp [e]
theorem cmpCall_lt (a b : CallR) : cmpCall a b < 0 ↔ ltCall a b := by
 unfold cmpCall
 by_cases e : a = b
 ·rw [if_pos e, e]
  exact ⟨fun h => by omega, fun h => absurd h (ltCall_irrefl b)⟩
 rw [if_neg e]
 by_cases c : a.failed ≠ b.failed ∧ a.hour = b.hour ∧ a.edge = b.edge
 ·rw [if_pos c]
  obtain ⟨c1, c2, c3⟩ := c
  have k : ltCall a b ↔ (a.failed = false ∧ b.failed = true) := by
   constructor
   ·rintro (h | ⟨_, h | ⟨_, h | ⟨h, _⟩⟩⟩)
    ·omega
    ·rw [c3, ssLt_irrefl] at h; simp at h
    ·exact h
    ·exact absurd h c1
   ·exact fun h => .inr ⟨c2, .inr ⟨c3, .inl h⟩⟩
  rw [k]
  cases f1 : a.failed <;> cases f2 : b.failed <;> simp_all
 ·rw [if_neg c, or4_lt, cmpI_lt, cmpI_zero, cmpS_ltI, cmpS_zero, cmpS_ltI, cmpS_zero, cmpI_lt]
  constructor
  ·rintro (h | ⟨h, h1 | ⟨h1, h2 | ⟨h2, h3⟩⟩⟩)
   ·exact .inl h
   ·exact .inr ⟨h, .inl ((ssLt_iff _ _).2 (.inl h1))⟩
   ·exact .inr ⟨h, .inl ((ssLt_iff _ _).2 (.inr ⟨h1, h2⟩))⟩
   ·have he : a.edge = b.edge := Prod.ext h1 h2
    have hf : a.failed = b.failed := Classical.byContradiction fun hn => c ⟨hn, h, he⟩
    exact .inr ⟨h, .inr ⟨he, .inr ⟨hf, h3⟩⟩⟩
  ·rintro (h | ⟨h, h1 | ⟨h1, ⟨k1, k2⟩ | ⟨k1, k2⟩⟩⟩)
   ·exact .inl h
   ·rcases (ssLt_iff _ _).1 h1 with h2 | ⟨h2, h3⟩
    ·exact .inr ⟨h, .inl h2⟩
    ·exact .inr ⟨h, .inr ⟨h2, .inl h3⟩⟩
   ·exact absurd ⟨by rw [k1, k2]; simp, h, h1⟩ c
   ·exact .inr ⟨h, .inr ⟨by rw [h1], .inr ⟨by rw [h1], k2⟩⟩⟩
theorem cmpCall_zero (a b : CallR) : cmpCall a b = 0 ↔ a = b := by
 constructor
 ·intro h
  unfold cmpCall at h
  by_cases e : a = b
  ·exact e
  rw [if_neg e] at h
  by_cases c : a.failed ≠ b.failed ∧ a.hour = b.hour ∧ a.edge = b.edge
  ·rw [if_pos c] at h
   split at h <;> omega
  ·rw [if_neg c, or4_zero, cmpI_zero, cmpS_zero, cmpS_zero, cmpI_zero] at h
   obtain ⟨h1, h2, h3, h4⟩ := h
   have he : a.edge = b.edge := Prod.ext h2 h3
   have hf : a.failed = b.failed := Classical.byContradiction fun hn => c ⟨hn, h1, he⟩
   cases a; cases b
   simp_all
 ·rintro rfl
  unfold cmpCall
  rw [if_pos rfl]
theorem swoCall : Sort.SWO (ltOf cmpCall) := by
 have e : ∀ x y, ltOf cmpCall x y = true ↔ ltCall x y := fun x y => by unfold ltOf; rw [decide_eq_true_iff, cmpCall_lt]
 have f : ∀ x y, ltOf cmpCall x y = false ↔ ¬ ltCall x y := fun x y => by rw [← e]; simp
 refine ⟨fun x => (f x x).2 (ltCall_irrefl x), fun x y z h1 h2 => (e x z).2 (ltCall_trans ((e x y).1 h1) ((e y z).1 h2)), fun x y z h1 h2 => (f x z).2 fun h => ?_⟩
 have h1 := (f x y).1 h1
 have h2 := (f y z).1 h2
 rcases ltCall_total x y with g | g | g
 ·exact h1 g
 ·rw [g] at h; exact h2 h
 ·exact h2 (ltCall_trans g h)
end
end Go.Eng.S

namespace Go.Eng.S
open Go Go.Eng Go.Proofs
set_option linter.constructorNameAsVariable false
noncomputable section
attribute [local irreducible] bsel
theorem isNaNS_ok (a : ByteArray) (s : St) : CallsD P F.cmp_isNaN_string [.str a] s fun v s' => v = .bool false ∧ s' = s := by
 refine CallsD.pure (fun s => (vc.cmp_isNaN_string_ok ?_).a) rfl s
 show AV.bool (!(bytesEq a.data.toList a.data.toList)) = .bool false
 rw [sEq_eq]; simp
theorem CompareS_ok (a b : ByteArray) (s : St) : CallsD P F.cmp_Compare_string [.str a, .str b] s fun v s' => v = .int .i64 (cmpS a b) ∧ s' = s := by
 refine CallsD.pure (fun s => (vc.cmp_Compare_string_ok ((isNaNS_ok a s).mono ?_)).a) rfl s
 rintro _ _ ⟨rfl, rfl⟩
 refine ⟨false, rfl, (isNaNS_ok b _).mono ?_⟩
 rintro _ _ ⟨rfl, rfl⟩
 refine ⟨false, rfl, bsel_of (fun c => by simp at c) fun _ => bsel_of (fun c => by simp at c) fun _ => bsel_of (fun c => ?_) fun c => bsel_of (fun c' => ?_) fun c' => ?_⟩
 ·have c : sLt a b = true := c
  unfold cmpS; rw [if_pos c]
 ·have c : ¬ sLt a b = true := by unfold sLt; simp [c]
  have : ¬ a = b := by
   rintro rfl
   rw [sEq_eq] at c'
   simp at c'
  unfold cmpS; rw [if_neg c, if_neg this]
 ·have c0 : ¬ sLt a b = true := by unfold sLt; simp [c]
  have : a = b := by
   rw [c, sEq_eq] at c'
   simpa using c'
  unfold cmpS; rw [if_neg c0, if_pos this]
theorem isNaNI_ok (a : Int) (s : St) : CallsD P F.cmp_isNaN_int64 [.int .i64 a] s fun v s' => v = .bool false ∧ s' = s := by
 refine CallsD.pure (fun s => (vc.cmp_isNaN_int64_ok ?_).a) rfl s
 show AV.bool (a != a) = .bool false
 simp
theorem CompareI_ok (a b : Int) (s : St) : CallsD P F.cmp_Compare_int64 [.int .i64 a, .int .i64 b] s fun v s' => v = .int .i64 (cmpI a b) ∧ s' = s := by
 refine CallsD.pure (fun s => (vc.cmp_Compare_int64_ok ((isNaNI_ok a s).mono ?_)).a) rfl s
 rintro _ _ ⟨rfl, rfl⟩
 refine ⟨false, rfl, (isNaNI_ok b _).mono ?_⟩
 rintro _ _ ⟨rfl, rfl⟩
 refine ⟨false, rfl, bsel_of (fun c => by simp at c) fun _ => bsel_of (fun c => by simp at c) fun _ => bsel_of (fun c => ?_) fun c => bsel_of (fun c' => ?_) fun c' => ?_⟩
 ·have c : a < b := by simpa using c
  unfold cmpI; rw [if_pos c]
 ·have c : ¬ a < b := by simpa using c
  have c' : a > b := by simpa using c'
  unfold cmpI; rw [if_neg c, if_pos c']
 ·have c : ¬ a < b := by simpa using c
  have c' : ¬ a > b := by simpa using c'
  unfold cmpI; rw [if_neg c, if_neg c']
theorem isNaNU_ok (a : Int) (s : St) : CallsD P F.cmp_isNaN_uint64 [.int .u64 a] s fun v s' => v = .bool false ∧ s' = s := by
 refine CallsD.pure (fun s => (vc.cmp_isNaN_uint64_ok ?_).a) rfl s
 show AV.bool (a != a) = .bool false
 simp
theorem CompareU_ok (a b : Int) (s : St) : CallsD P F.cmp_Compare_uint64 [.int .u64 a, .int .u64 b] s fun v s' => v = .int .i64 (cmpI a b) ∧ s' = s := by
 refine CallsD.pure (fun s => (vc.cmp_Compare_uint64_ok ((isNaNU_ok a s).mono ?_)).a) rfl s
 rintro _ _ ⟨rfl, rfl⟩
 refine ⟨false, rfl, (isNaNU_ok b _).mono ?_⟩
 rintro _ _ ⟨rfl, rfl⟩
 refine ⟨false, rfl, bsel_of (fun c => by simp at c) fun _ => bsel_of (fun c => by simp at c) fun _ => bsel_of (fun c => ?_) fun c => bsel_of (fun c' => ?_) fun c' => ?_⟩
 ·have c : a < b := by simpa using c
  unfold cmpI; rw [if_pos c]
 ·have c : ¬ a < b := by simpa using c
  have c' : a > b := by simpa using c'
  unfold cmpI; rw [if_neg c, if_pos c']
 ·have c : ¬ a < b := by simpa using c
  have c' : ¬ a > b := by simpa using c'
  unfold cmpI; rw [if_neg c, if_neg c']
def fst0 : List Int → Int
 | [] => 0
 | x :: r => if x ≠ 0 then x else fst0 r
theorem OrL_ok {s : St} {b : Nat} {xs : List Int} {n : Nat} (hn : xs.length = n) (h : Own s b (xs.map fun x => .int .i64 x)) (hsz : n < 1000) : CallsD P F.cmp_Or_int [.slice b 0 n (.exact n)] s fun v s' => v = .int .i64 (fst0 xs) ∧ s' = s := by
 subst hn
 refine vc.cmp_Or_int_ok ?_
 show ∃ I : Int → St → Nat → Prop, _
 refine ⟨fun n s5 m => s5 = s ∧ ∃ i : Nat, n = i ∧ m = xs.length - i ∧ i ≤ xs.length ∧ fst0 xs = fst0 (xs.drop i), ⟨_, rfl, 0, rfl, rfl, by omega, rfl⟩, ?_⟩
 rintro _ s5 m ⟨rfl, i, rfl, rfl, hi, he⟩
 refine bsel_of (fun c => ?_) fun c => ?_
 ·have c : i < xs.length := by simpa using c
  refine ⟨by omega, by omega, ?_⟩
  have r : Eng.ld1 s5 (.ptr b i) = some (.int .i64 xs[i]) := h.ld1 i (by simp [c])
  rw [mulS_eq]
  rw [show 0 + (i : Int).toNat * 1 = i by simp]
  rw [List.drop_eq_getElem_cons c] at he
  refine ⟨_, r, bsel_of (fun c1 => ?_) fun c1 => ?_⟩
  ·have c1 : xs[i] ≠ 0 := by simpa using c1
   exact ⟨by rw [he, fst0, if_pos c1], rfl⟩
  ·have c1 : xs[i] = 0 := by simpa using c1
   exact ⟨xs.length - (i + 1), by omega, rfl, i + 1, by rw [wrap_i64 (by omega) (by omega)]; rfl, rfl, by omega, by rw [he, fst0, if_neg (by simpa using c1)]⟩
 ·have c : i = xs.length := by simp at c; omega
  subst c
  rw [List.drop_length] at he
  exact ⟨by rw [he]; rfl, rfl⟩
set_option maxHeartbeats 1000000 in
theorem order_ok (a b : CallR) (s : St) : CallsD P F.calls_order [.agg (callF a), .agg (callF b)] s fun v s' => v = .int .i64 (cmpCall a b) ∧ s' = s := by
 refine CallsD.pure (fun s => (vc.calls_order_ok ?_).a) rfl s
 intro m1 s2 h2 m3 s4 h4
 have o1 := h2.own.ext h4.fwd
 have o3 := h4.own
 have hd : ∀ c : Prop, (a = b) = c → True := fun _ _ => trivial
 refine ⟨_, _, _, _, _, o1.all rfl, _, _, _, _, _, o3.all rfl, bsel_of (fun c => ?_) fun c => ⟨_, o1.ld1 3 rfl, _, o3.ld1 3 rfl, bsel_of (fun c1 => ⟨_, o1.ld1 0 rfl, _, o3.ld1 0 rfl, bsel_of (fun c2 => ⟨_, _, o1.ldN 1 2 (by simp), _, _, o3.ldN 1 2 (by simp), bsel_of (fun c3 => ?_) fun c3 => ?_⟩) fun c2 => ?_⟩) fun c1 => ?_⟩⟩
 ·have : a = b := by
   rw [if_pos rfl, sEq_eq, sEq_eq] at c
   obtain ⟨a1, ⟨a2, a3⟩, a4, a5⟩ := a
   obtain ⟨b1, ⟨b2, b3⟩, b4, b5⟩ := b
   simp at c
   simp [c]
  show AV.int .i64 0 = _
  rw [cmpCall, if_pos this]
 all_goals
  have hne : ¬ a = b := by
   rintro rfl
   rw [if_pos rfl, sEq_eq, sEq_eq] at c
   simp at c
 ·have c1 : a.failed ≠ b.failed := by simpa using c1
  have c2 : a.hour = b.hour := by simpa using c2
  have c3 : a.edge = b.edge := by
   rw [if_pos rfl, sEq_eq, sEq_eq] at c3
   simp at c3
   exact Prod.ext c3.1 c3.2
  refine ⟨_, o3.ld1 3 rfl, bsel_of (fun c4 => ?_) fun c4 => ?_⟩
  ·show AV.int .i64 (-1) = _
   rw [cmpCall, if_neg hne, if_pos ⟨c1, c2, c3⟩, if_pos c4]
  ·show AV.int .i64 1 = _
   rw [cmpCall, if_neg hne, if_pos ⟨c1, c2, c3⟩, if_neg (by simp [c4])]
 all_goals
  have hk : cmpCall a b = fst0 [cmpI a.hour b.hour, cmpS a.edge.1 b.edge.1, cmpS a.edge.2 b.edge.2, cmpI a.took b.took] := by
   have hn : ¬ (a.failed ≠ b.failed ∧ a.hour = b.hour ∧ a.edge = b.edge) := by
    rintro ⟨k1, k2, k3⟩
    first
     | (rw [if_pos rfl, sEq_eq, sEq_eq, k3] at c3; simp at c3; done)
     | (rw [k2] at c2; simp at c2; done)
     | (simp [k1] at c1; done)
   rw [cmpCall, if_neg hne, if_neg hn, or4]
   simp only [fst0]
   by_cases w : cmpI a.took b.took = 0
   ·rw [if_neg (c := cmpI a.took b.took ≠ 0) (by simpa using w), w]
   ·rw [if_pos (c := cmpI a.took b.took ≠ 0) w]
  clear c
  intro s24 hB
  have p1 := o1.ext hB.fwd
  have p3 := o3.ext hB.fwd
  refine ⟨_, p1.ld1 0 rfl, _, p3.ld1 0 rfl, (CompareI_ok _ _ s24).mono ?_⟩
  rintro _ _ ⟨rfl, rfl⟩
  refine ⟨_, rfl, _, p1.ld1 1 rfl, p1.ld1 1 rfl, _, p3.ld1 1 rfl, p3.ld1 1 rfl, (CompareS_ok _ _ _).mono ?_⟩
  rintro _ _ ⟨rfl, rfl⟩
  refine ⟨_, rfl, _, p1.ld1 2 rfl, p1.ld1 2 rfl, p1.ld1 2 rfl, _, p3.ld1 2 rfl, p3.ld1 2 rfl, p3.ld1 2 rfl, (CompareS_ok _ _ _).mono ?_⟩
  rintro _ _ ⟨rfl, rfl⟩
  refine ⟨_, rfl, _, p1.ld1 4 rfl, p1.ld1 4 rfl, p1.ld1 4 rfl, p1.ld1 4 rfl, _, p3.ld1 4 rfl, p3.ld1 4 rfl, p3.ld1 4 rfl, p3.ld1 4 rfl, (CompareU_ok _ _ _).mono ?_⟩
  rintro _ _ ⟨rfl, rfl⟩
  refine ⟨_, rfl, (OrL_ok (xs := [cmpI a.hour b.hour, cmpS a.edge.1 b.edge.1, cmpS a.edge.2 b.edge.2, cmpI a.took b.took]) (n := 4) rfl hsetS_own (by decide)).mono ?_⟩
  rintro _ _ ⟨rfl, rfl⟩
  exact ⟨_, rfl, by rw [hk]⟩
theorem Sort_ok {s : St} {x : AV} {l : List CallR} (hx : So callE s x l) (hsz : l.length < 4611686018427387904) (hfr : Fr s) :
  CallsA P F.slices_SortFunc_sl_api_Call_api_Call [x, .func F.calls_order [] []] s fun v s' => v = .tuple [] ∧ ∃ l', l'.Perm l ∧ l'.Pairwise (fun y z => 0 ≤ cmpCall z y) ∧ So callE s' x l' ∧ Frw (blkOf x) s s' ∧ Fr s' := by
 rcases hx with ⟨rfl, h2⟩ | ⟨b, k, n, c, rfl, g1, g2, g3⟩
 ·have hl : l = [] := by
   cases l with
   | nil => rfl
   | cons a r => simp [callE, callF] at h2
  subst hl
  refine (CallsA.sort0 Tryz.sortC (x := .nilslice) rfl).mono ?_
  rintro v s' ⟨rfl, rfl⟩
  exact ⟨rfl, [], .refl _, by simp, .nil _ _, .refl _ _, hfr⟩
 ·have hn : l.length = n := by
   rw [callE.flat_len] at g1
   exact Nat.eq_of_mul_eq_mul_right (by decide) g1
  cases n with
  | zero =>
   have hl : l = [] := List.length_eq_zero_iff.1 hn
   subst hl
   refine (CallsA.sort0 Tryz.sortC (x := .slice b 0 0 (.var k 0)) rfl).mono ?_
   rintro v s' ⟨rfl, rfl⟩
   exact ⟨rfl, [], .refl _, by simp, .inr ⟨b, k, 0, c, rfl, g1, g2, g3⟩, .refl _ _, hfr⟩
  | succ n =>
   have hsort := CallsA.sortK hD Tryz.sortC callE (fun w => by exact run_agg hD ty.api_Call w) (fun w => by exact run_size hD ty.api_Call w) (fun _ => rfl) (fun _ => True) cmpCall swoCall (g := F.calls_order) (fi := fnI Tryz.f48) (by kernel_rfl) (caps := []) (s := s) (b := b) (o := 0) (n := n + 1) (cap := .var k 0) g2 rfl (l := l) hn (Nat.le_of_eq (by simp [callE])) g3 (by omega) (by omega) (fun _ _ => trivial)
    (fun s0 _ x y _ _ => (order_ok x y s0).a.mono fun _ _ h => h.1)
   refine hsort.mono ?_
   rintro v s' ⟨rfl, l3, p1, p2, rfl⟩
   have hlen : l3.length = n + 1 := by rw [p1.length_eq, hn]
   refine ⟨rfl, l3, p1, p2, .inr ⟨b, k, n + 1, _, rfl, by rw [callE.flat_len, hlen], by simp only [PT.get_set_same]; rfl, ?_⟩, ⟨fun d o hd ho => ?_, Nat.le_refl _, rfl⟩, fun d hd => ?_⟩
   ·refine getAll_of (by rw [callE.flat_len, hlen]) fun i hi => ?_
    have : (l3.flatMap callE.f).length = (n + 1) * callE.z := by rw [callE.flat_len, hlen]
    rw [PT.get_setAll, if_pos (by omega)]
    simp
   ·have : d ≠ b := by simpa [blkOf] using hd
    simp only [PT.get_set]; rw [if_neg this]; exact ho
   ·have hd : s.nx ≤ d := hd
    have : d ≠ b := by rintro rfl; rw [hfr d hd] at g2; simp at g2
    simp only [PT.get_set]; rw [if_neg this]; exact hfr d hd
end
end Go.Eng.S

namespace Go.Eng.S
open Go Go.Eng Go.Proofs
set_option linter.constructorNameAsVariable false
set_option maxRecDepth 4000
noncomputable section
attribute [local irreducible] bsel
theorem SortedFunc_ok {s : St} {f : AV} {xs : List CallR} {B : List Nat} (hs : SeqA P D B s f xs.length fun i => [.agg (callF (at' xs i))]) (hB2 : ∀ c, c ∈ B → s.h.get c ≠ none) (hlen : (xs.length + 1 + (xs.length + 1) / 4 + 600) * 56 ≤ pow48) :
  CallsA P F.slices_SortedFunc_api_Call [f, .func F.calls_order [] []] s fun v s' => ∃ l', l'.Perm xs ∧ l'.Pairwise (fun y z => 0 ≤ cmpCall z y) ∧ So callE s' v l' ∧ (∀ c, c ∈ blkOf v → s.h.get c = none) ∧ Frw [] s s' ∧ Fr s' := by
 refine vc.slices_SortedFunc_api_Call_ok (vc.slices_Collect_api_Call_ok ((AppendSeq_ok (L0 := []) (.nil _ _) hs (by simp [blkOf]) hB2 (by simpa using hlen)).mono ?_))
 rintro v s2 ⟨h1, h2, h3, h4⟩
 rw [List.nil_append] at h1
 refine ⟨v, rfl, v, rfl, (Sort_ok h1 (by unfold pow48 at hlen; omega) h4).mono ?_⟩
 rintro _ s5 ⟨rfl, l', q1, q2, q3, q4, q5⟩
 have hnew : ∀ c, c ∈ blkOf v → s.h.get c = none := fun c hc => (h2 c hc).resolve_left (by simp [blkOf])
 exact ⟨rfl, l', q1, q2, q3, hnew, h3.step q4 hnew, q5⟩
def VarS (x : AV) : Prop := slZero x = true ∨ ∃ b o n k t, x = .slice b o n (.var k t)
theorem _root_.Go.Eng.So.varS {α : Type} {E : Enc α} {s : St} {x : AV} {l : List α} (h : So E s x l) : VarS x := by
 rcases h with ⟨rfl, _⟩ | ⟨b, k, n, c, rfl, _⟩
 ·exact .inl rfl
 ·exact .inr ⟨_, _, _, _, _, rfl⟩
theorem tailV {s : St} {x : AV} {l : List CallR} (h : Sl callE s x l) (hv : VarS x) (hl : 0 < l.length) : ∃ y, sliceV 5 x (some (.int .i64 1)) none none = some y ∧ Sl callE s y (l.drop 1) ∧ VarS y ∧ ∀ c, c ∈ blkOf y → c ∈ blkOf x := by
 have hlen := h.len
 rcases hv with hz | ⟨b, o, n, k, t, rfl⟩
 ·rw [slZero_len hz] at hlen
  simp only [Option.some.injEq] at hlen
  omega
 ·have hn : n = l.length := by simpa [slLen] using hlen
  rcases h with ⟨q1, _⟩ | ⟨b', o', n', cap', q1, q2, d, N, tl, g1, g2, g3⟩
  ·simp [slZero] at q1
  simp only [AV.slice.injEq] at q1
  obtain ⟨rfl, rfl, rfl, rfl⟩ := q1
  have e1 : sliceV 5 (.slice b o n (.var k t)) (some (.int .i64 1)) none none = sliceVar 5 b o n k t 1 n := by
   simp [sliceV, optInt, sliceSl]
  rw [e1]
  unfold sliceVar
  rw [if_pos (by simp [Nat.ble_eq]; omega)]
  have hz : (l.flatMap callE.f).length = l.length * 5 := callE.flat_len l
  cases hb : Nat.blt 1 n with
  | true =>
   simp only
   refine ⟨_, rfl, .inr ⟨b, o + 1 * 5, n - 1, .var k (t + 1), rfl, by rw [callE.flat_len, List.length_drop, hn], d, N, tl, g1, ?_, ?_⟩, .inr ⟨_, _, _, _, _, rfl⟩, by simp [blkOf]⟩
   ·rw [callE.flat_len, List.length_drop]
    rw [hz] at g2
    show o + 1 * 5 + (l.length - 1) * 5 ≤ N
    omega
   ·have := getAll_part g3 (1 * 5) ((l.length - 1) * 5) (by rw [hz]; omega)
    rw [List.take_of_length_le (by rw [List.length_drop, hz]; omega)] at this
    have e2 : ((l.drop 1).flatMap callE.f).length = (l.length - 1) * 5 := by rw [callE.flat_len, List.length_drop]; rfl
    rw [e2, callE.flat_drop (k := 1) (by omega)]
    exact this
  | false =>
   have h0 : n ≤ 1 := by
    have : ¬ (Nat.blt 1 n = true) := by rw [hb]; simp
    rw [Nat.blt_eq] at this; omega
   simp only
   refine ⟨_, rfl, ?_, .inl rfl, by simp [blkOf]⟩
   rw [List.drop_eq_nil_of_le (by omega)]
   exact .inl ⟨rfl, rfl⟩
theorem sort_unique {l l' : List CallR} (hp : l.Perm l') (h : l.Pairwise fun y z => 0 ≤ cmpCall z y) (h' : l'.Pairwise fun y z => 0 ≤ cmpCall z y) : l = l' := by
 refine hp.eq_of_pairwise (le := fun y z => 0 ≤ cmpCall z y) (fun a b _ _ h1 h2 => ?_) h h'
 rcases ltCall_total a b with g | g | g
 ·have := (cmpCall_lt a b).2 g; omega
 ·exact g
 ·have := (cmpCall_lt b a).2 g; omega
def dl : List CallR → List CallR → List CallR × List CallR
 | [], B => ([], B)
 | a :: A, [] => (a :: A, [])
 | a :: A, b :: B =>
  if cmpCall a b < 0 then (a :: (dl A (b :: B)).1, (dl A (b :: B)).2)
  else if 0 < cmpCall a b then ((dl (a :: A) B).1, b :: (dl (a :: A) B).2)
  else dl A B
termination_by A B => A.length + B.length
theorem dl_nil (A : List CallR) : dl A [] = (A, []) := by
 cases A <;> simp [dl]
theorem dl_gone0 (a : CallR) (A : List CallR) : dl (a :: A) [] = (a :: (dl A []).1, (dl A []).2) := by rw [dl_nil, dl_nil]
theorem dl_come0 (b : CallR) (B : List CallR) : dl [] (b :: B) = ((dl [] B).1, b :: (dl [] B).2) := by simp [dl]
theorem dl_gone {a b : CallR} {A B : List CallR} (h : cmpCall a b < 0) : dl (a :: A) (b :: B) = (a :: (dl A (b :: B)).1, (dl A (b :: B)).2) := by
 rw [dl, if_pos h]
theorem dl_come {a b : CallR} {A B : List CallR} (h : 0 < cmpCall a b) : dl (a :: A) (b :: B) = ((dl (a :: A) B).1, b :: (dl (a :: A) B).2) := by
 rw [dl, if_neg (by omega), if_pos h]
theorem dl_both {a : CallR} {A B : List CallR} : dl (a :: A) (a :: B) = dl A B := by
 have := (cmpCall_zero a a).2 rfl
 rw [dl, if_neg (by omega), if_neg (by omega)]
structure DelI (a b A B G C : List CallR) : Prop where
 fn : dl a b = (G ++ (dl A B).1, C ++ (dl A B).2)
 perm : ∃ K, a.Perm (K ++ G ++ A) ∧ b.Perm (K ++ C ++ B)
 same : a = b → G = [] ∧ C = [] ∧ A = B
theorem perm_snoc {a K G A : List CallR} {x : CallR} (h : a.Perm (K ++ G ++ x :: A)) : a.Perm (K ++ (G ++ [x]) ++ A) := by
 refine h.trans (.of_eq ?_)
 simp
theorem perm_both {a K G A : List CallR} {x : CallR} (h : a.Perm (K ++ G ++ x :: A)) : a.Perm (x :: K ++ G ++ A) := by
 refine h.trans ?_
 rw [List.cons_append, List.cons_append]
 exact List.perm_middle
theorem DelI.gone {a b A B G C : List CallR} {x : CallR} (h : DelI a b (x :: A) B G C) (hn : x :: A ≠ B) (hd : dl (x :: A) B = (x :: (dl A B).1, (dl A B).2)) : DelI a b A B (G ++ [x]) C := by
 obtain ⟨h0, ⟨K, h1, h2⟩, h3⟩ := h
 exact ⟨by rw [h0, hd]; simp, ⟨K, perm_snoc h1, h2⟩, fun e => absurd (h3 e).2.2 hn⟩
theorem DelI.come {a b A B G C : List CallR} {x : CallR} (h : DelI a b A (x :: B) G C) (hn : A ≠ x :: B) (hd : dl A (x :: B) = ((dl A B).1, x :: (dl A B).2)) : DelI a b A B G (C ++ [x]) := by
 obtain ⟨h0, ⟨K, h1, h2⟩, h3⟩ := h
 exact ⟨by rw [h0, hd]; simp, ⟨K, h1, perm_snoc h2⟩, fun e => absurd (h3 e).2.2 hn⟩
theorem DelI.both {a b A B G C : List CallR} {x : CallR} (h : DelI a b (x :: A) (x :: B) G C) : DelI a b A B G C := by
 obtain ⟨h0, ⟨K, h1, h2⟩, h3⟩ := h
 exact ⟨by rw [h0, dl_both], ⟨x :: K, perm_both h1, perm_both h2⟩, fun e => by
  obtain ⟨k1, k2, k3⟩ := h3 e
  exact ⟨k1, k2, by simpa using k3⟩⟩
end
end Go.Eng.S

namespace Go.Eng.S
open Go Go.Eng Go.Proofs
set_option linter.constructorNameAsVariable false
set_option maxRecDepth 4000
noncomputable section
attribute [local irreducible] bsel
theorem app_ok {s s1 : St} {x : AV} {G : List CallR} {a : CallR} {m : Nat} (hx : So callE s x G) (hN : NewO s (cellsO (callF a)) m s1) (hlen : (G.length + 1 + (G.length + 1) / 4 + 600) * 56 ≤ pow48) :
  ∃ x' s', appendX D s1 T.sl_api_Call T.sl_api_Call x (.slice m 0 1 (.exact 1)) = some (x', s') ∧ So callE s' x' (G ++ [a]) ∧ (∀ c, c ∈ blkOf x' → s.h.get c = none) ∧ Frw (blkOf x) s s' ∧ Fr s' := by
 obtain ⟨x', s', q1, q2, q3, q4, q5, q6⟩ := So.append' (a := a) (hx.ext hN.fwd) ty.sl_api_Call rfl ty.api_Call rfl rfl rfl rfl hN.own.rd rfl hlen (by unfold pow48 at hlen ⊢; omega) hN.fr
 refine ⟨x', s', q1, q2, fun c hc => ?_, (hN.fwd.mono (by simp)).trans q3, q5⟩
 rw [q4] at hc
 have hc : c = s1.nx := by simpa using hc
 rw [hc]
 exact hN.fwd.none (hN.fr _ (Nat.le_refl _)) (by simp)
def Apart (x y : AV) : Prop := ∀ c, c ∈ blkOf x → c ∉ blkOf y
theorem sl_there {s : St} {x : AV} {l : List CallR} (h : Sl callE s x l) : ∀ c, c ∈ blkOf x → s.h.get c ≠ none := by
 rcases h with ⟨h1, _⟩ | ⟨b, o, n, cap, rfl, _, h3⟩
 ·intro c hc
  cases x <;> simp [slZero, blkOf] at h1 hc
 ·intro c hc
  have : c = b := by simpa [blkOf] using hc
  rw [this]; exact h3.there
structure DI (s0 : St) (xa xb : AV) (la lb : List CallR) (x15 x16 x17 x18 : AV) (s : St) (A B G C : List CallR) : Prop where
 a : Sl callE s x15 A
 av : VarS x15
 ab : ∀ c, c ∈ blkOf x15 → s0.h.get c ≠ none
 b : Sl callE s x16 B
 bv : VarS x16
 bb : ∀ c, c ∈ blkOf x16 → s0.h.get c ≠ none
 g : So callE s x17 G
 gb : ∀ c, c ∈ blkOf x17 → s0.h.get c = none
 gn : G = [] → x17 = .nilslice
 c : So callE s x18 C
 cb : ∀ c, c ∈ blkOf x18 → s0.h.get c = none
 cn : C = [] → x18 = .nilslice
 ap : Apart x17 x18
 d : DelI la lb A B G C
 f : Frw [] s0 s
 fr : Fr s
variable {s0 s s1 : St} {xa xb x15 x16 x17 x18 : AV} {la lb A B G C : List CallR} {a b : CallR} {m : Nat}
theorem DI.ext (h : DI s0 xa xb la lb x15 x16 x17 x18 s A B G C) (hf : Frw [] s s1) (hfr : Fr s1) : DI s0 xa xb la lb x15 x16 x17 x18 s1 A B G C :=
 ⟨h.a.ext hf, h.av, h.ab, h.b.ext hf, h.bv, h.bb, h.g.ext hf, h.gb, h.gn, h.c.ext hf, h.cb, h.cn, h.ap, h.d, h.f.trans hf, hfr⟩
theorem DI.gone (h : DI s0 xa xb la lb x15 x16 x17 x18 s (a :: A) B G C) (hn : a :: A ≠ B) (hd : dl (a :: A) B = (a :: (dl A B).1, (dl A B).2)) (hN : NewO s (cellsO (callF a)) m s1) (hlen : (la.length + 1 + (la.length + 1) / 4 + 600) * 56 ≤ pow48) :
  ∃ x' s', appendX D s1 T.sl_api_Call T.sl_api_Call x17 (.slice m 0 1 (.exact 1)) = some (x', s') ∧ ∃ y, sliceV 5 x15 (some (.int .i64 1)) none none = some y ∧ DI s0 xa xb la lb y x16 x' x18 s' A B (G ++ [a]) C := by
 have hG : G.length ≤ la.length := by
  obtain ⟨K, h1, _⟩ := h.d.perm
  have := h1.length_eq
  simp at this; omega
 obtain ⟨x', s', q1, q2, q3, q4, q5⟩ := app_ok h.g hN (Nat.le_trans (Nat.mul_le_mul_right 56 (by omega)) hlen)
 obtain ⟨y, k1, k2, k3, k4⟩ := tailV h.a h.av (by simp)
 refine ⟨x', s', q1, y, k1, ?_, k3, fun c hc => h.ab c (k4 c hc), h.b.beside q4 (fun c hc => .inr fun hx => h.bb c hx (h.gb c hc)), h.bv, h.bb, q2, fun c hc => h.f.none (q3 c hc) (by simp), by simp, h.c.beside q4 (fun c hc hx => h.ap c hc hx), h.cb, h.cn, fun c hc hx => h.c.there c hx (q3 c hc), h.d.gone hn hd, h.f.step q4 h.gb, q5⟩
 exact k2.beside q4 fun c hc => .inr fun hx => h.ab c (k4 c hx) (h.gb c hc)
theorem DI.come (h : DI s0 xa xb la lb x15 x16 x17 x18 s A (b :: B) G C) (hn : A ≠ b :: B) (hd : dl A (b :: B) = ((dl A B).1, b :: (dl A B).2)) (hN : NewO s (cellsO (callF b)) m s1) (hlen : (lb.length + 1 + (lb.length + 1) / 4 + 600) * 56 ≤ pow48) :
  ∃ x' s', appendX D s1 T.sl_api_Call T.sl_api_Call x18 (.slice m 0 1 (.exact 1)) = some (x', s') ∧ ∃ y, sliceV 5 x16 (some (.int .i64 1)) none none = some y ∧ DI s0 xa xb la lb x15 y x17 x' s' A B G (C ++ [b]) := by
 have hG : C.length ≤ lb.length := by
  obtain ⟨K, _, h1⟩ := h.d.perm
  have := h1.length_eq
  simp at this; omega
 obtain ⟨x', s', q1, q2, q3, q4, q5⟩ := app_ok h.c hN (Nat.le_trans (Nat.mul_le_mul_right 56 (by omega)) hlen)
 obtain ⟨y, k1, k2, k3, k4⟩ := tailV h.b h.bv (by simp)
 refine ⟨x', s', q1, y, k1, h.a.beside q4 (fun c hc => .inr fun hx => h.ab c hx (h.cb c hc)), h.av, h.ab, ?_, k3, fun c hc => h.bb c (k4 c hc), h.g.beside q4 (fun c hc hx => h.ap c hx hc), h.gb, h.gn, q2, fun c hc => h.f.none (q3 c hc) (by simp), by simp, fun c hc hx => h.g.there c hc (q3 c hx), h.d.come hn hd, h.f.step q4 h.cb, q5⟩
 exact k2.beside q4 fun c hc => .inr fun hx => h.bb c (k4 c hx) (h.cb c hc)
set_option maxHeartbeats 1000000 in
theorem Delta_okF {x y : AV} (hx : Sl callE s x A) (hy : Sl callE s y B) (hA : (A.length + 1 + (A.length + 1) / 4 + 600) * 56 ≤ pow48) (hB : (B.length + 1 + (B.length + 1) / 4 + 600) * 56 ≤ pow48) :
  CallsA P F.calls_Delta [x, y] s fun v s' => ∃ g c G C, v = .tuple [g, c] ∧ SoN callE s' g G ∧ SoN callE s' c C ∧ (∀ d, d ∈ blkOf g ∨ d ∈ blkOf c → s.h.get d = none) ∧ Apart g c ∧ (∃ la lb, la.Perm A ∧ la.Pairwise (fun y z => 0 ≤ cmpCall z y) ∧ lb.Perm B ∧ lb.Pairwise (fun y z => 0 ≤ cmpCall z y) ∧ dl la lb = (G, C)) ∧ (∃ K, A.Perm (K ++ G) ∧ B.Perm (K ++ C)) ∧ (A.Perm B → G = [] ∧ C = []) ∧ Frw [] s s' ∧ Fr s' := by
 have hA' : A.length < 4611686018427387904 := by unfold pow48 at hA; omega
 have hB' : B.length < 4611686018427387904 := by unfold pow48 at hB; omega
 refine vc.calls_Delta_ok ((Values_ok hx).a.mono ?_)
 rintro _ s2 ⟨⟨m2, rfl, o2, g2, f2⟩, hfr2⟩
 refine ⟨_, rfl, (SortedFunc_ok (Values_seq (hx.ext f2) o2 hA') (fun c hc => ?_) hA).mono ?_⟩
 ·rcases List.mem_cons.1 hc with rfl | hc
  ·exact o2.there
  ·exact sl_there (hx.ext f2) c hc
 rintro xa s5 ⟨la, pa, sa, soa, na, f5, hfr5⟩
 have hy5 := hy.ext (f2.trans f5)
 refine ⟨xa, rfl, (Values_ok hy5).a.mono ?_⟩
 rintro _ s8 ⟨⟨m8, rfl, o8, g8, f8⟩, hfr8⟩
 refine ⟨_, rfl, (SortedFunc_ok (Values_seq (hy5.ext f8) o8 hB') (fun c hc => ?_) hB).mono ?_⟩
 ·rcases List.mem_cons.1 hc with rfl | hc
  ·exact o8.there
  ·exact sl_there (hy5.ext f8) c hc
 rintro xb s11 ⟨lb, pb, sb, sob, nb, f11, hfr11⟩
 have soa11 := soa.ext (f8.trans f11)
 have hla : (la.length + 1 + (la.length + 1) / 4 + 600) * 56 ≤ pow48 := by rw [pa.length_eq]; exact hA
 have hlb : (lb.length + 1 + (lb.length + 1) / 4 + 600) * 56 ≤ pow48 := by rw [pb.length_eq]; exact hB
 have hsame : A.Perm B → la = lb := fun h => sort_unique ((pa.trans h).trans pb.symm) sa sb
 have f011 := ((f2.trans f5).trans f8).trans f11
 refine ⟨xb, rfl, fun x15 x16 x17 x18 s19 m => ∃ A' B' G C, m = A'.length + B'.length ∧ DI s11 xa xb la lb x15 x16 x17 x18 s19 A' B' G C, ⟨_, la, lb, [], [], rfl, soa11.sl, soa11.varS, fun c hc => soa11.there c hc, sob.sl, sob.varS, fun c hc => sob.there c hc, .nil _ _, by simp [blkOf], fun _ => rfl, .nil _ _, by simp [blkOf], fun _ => rfl, by intro c hc; simp [blkOf] at hc, ⟨by simp, ⟨[], by simp, by simp⟩, fun e => ⟨rfl, rfl, e⟩⟩, .refl _ _, hfr11⟩, ?_⟩
 rintro x15 x16 x17 x18 s19 m20 ⟨A', B', G, C, hm, h⟩
 have ix : ∀ {s : St} {z : AV} {q : CallR} {Z : List CallR} {R : Int → ByteArray → ByteArray → Bool → Int → Prop}, Sl callE s z (q :: Z) → R q.hour q.edge.1 q.edge.2 q.failed q.took →
   ixsK 5 z 0 fun b o => ∃ n t u c w, ldN s (.ptr b o) 5 = some [.int .i64 n, .str t, .str u, .bool c, .int .u64 w] ∧ R n t u c w := fun hz hR =>
  hz.ixs rfl (k := 0) rfl (by simp) fun b o hr => ⟨_, _, _, _, _, hr.all rfl, hR⟩
 have tk : ∀ {z u : AV} {K : AV → Prop}, sliceV 5 z (some (.int .i64 1)) none none = some u → K u → optK (sliceV 5 z (some (.int .i64 1)) none none) K := fun hz hK => by rw [hz]; exact hK
 have hend : A' = [] → B' = [] → ∃ g c G C, (AV.tuple [x17, x18]) = .tuple [g, c] ∧ SoN callE s19 g G ∧ SoN callE s19 c C ∧ (∀ d, d ∈ blkOf g ∨ d ∈ blkOf c → s.h.get d = none) ∧ Apart g c ∧ (∃ la lb, la.Perm A ∧ la.Pairwise (fun y z => 0 ≤ cmpCall z y) ∧ lb.Perm B ∧ lb.Pairwise (fun y z => 0 ≤ cmpCall z y) ∧ dl la lb = (G, C)) ∧ (∃ K, A.Perm (K ++ G) ∧ B.Perm (K ++ C)) ∧ (A.Perm B → G = [] ∧ C = []) ∧ Frw [] s s19 ∧ Fr s19 := by
  rintro rfl rfl
  obtain ⟨K, k1, k2⟩ := h.d.perm
  rw [List.append_nil] at k1 k2
  exact ⟨x17, x18, G, C, rfl, ⟨h.g, h.gn⟩, ⟨h.c, h.cn⟩, fun d hd => f011.none (hd.elim (h.gb d) (h.cb d)) (by simp), h.ap, ⟨la, lb, pa, sa, pb, sb, by simpa [dl] using h.d.fn⟩, ⟨K, pa.symm.trans k1, pb.symm.trans k2⟩, fun e => ⟨(h.d.same (hsame e)).1, (h.d.same (hsame e)).2.1⟩, f011.trans h.f, h.fr⟩
 have mono : ∀ {A' B' G C : List CallR} {z1 z2 z3 z4 : AV} {s' : St}, DI s11 xa xb la lb z1 z2 z3 z4 s' A' B' G C → A'.length + B'.length < m20 → ∃ m', m' < m20 ∧ ∃ A' B' G C, m' = A'.length + B'.length ∧ DI s11 xa xb la lb z1 z2 z3 z4 s' A' B' G C := fun h hl => ⟨_, hl, _, _, _, _, rfl, h⟩
 cases A' with
 | nil =>
  cases B' with
  | nil =>
   refine h.a.slen (bsel_of (fun c => by simp at c <;> omega) fun _ => h.b.slen (bsel_of (fun c => by simp at c <;> omega) fun _ => hend rfl rfl))
  | cons b B' =>
   refine h.a.slen (bsel_of (fun c => by simp at c <;> omega) fun _ => h.b.slen (bsel_of (fun _ => h.a.slen (bsel_of (fun _ => ix h.b ?_) fun c => by simp at c <;> omega)) fun c => by simp at c <;> omega))
   intro m138 s139 hN
   obtain ⟨x', s', q1, u, q2, q3⟩ := h.come (by simp) (dl_come0 _ _) hN hlb
   exact ⟨x', s', q1, tk q2 (mono q3 (by simp at hm ⊢; omega))⟩
 | cons a A' =>
  refine h.a.slen (bsel_of (fun _ => h.a.slen (bsel_of (fun c => by simp at c <;> omega) fun _ => ?_)) fun c => by simp at c <;> omega)
  cases B' with
  | nil =>
   refine h.b.slen (bsel_of (fun _ => ix h.a ?_) fun c => by simp at c <;> omega)
   intro m44 s45 hN
   obtain ⟨x', s', q1, u, q2, q3⟩ := h.gone (by simp) (dl_gone0 _ _) hN hla
   exact ⟨x', s', q1, tk q2 (mono q3 (by simp at hm ⊢; omega))⟩
  | cons b B' =>
   refine h.b.slen (bsel_of (fun c => by simp at c <;> omega) fun _ => ?_)
   intro s50 hBu
   have h5 := h.ext hBu.fwd hBu.fr
   refine ix h5.a (ix h5.b ((order_ok a b s50).mono ?_))
   rintro _ _ ⟨rfl, rfl⟩
   refine ⟨_, rfl, bsel_of (fun c => ?_) fun c => bsel_of (fun c1 => ?_) fun c1 => ?_⟩
   ·have c : cmpCall a b < 0 := by simpa using c
    refine ix h5.a fun m75 s76 hN => ?_
    have hne : a :: A' ≠ b :: B' := fun e => by
     have := (cmpCall_zero a b).2 (by simp at e; exact e.1)
     omega
    obtain ⟨x', s', q1, u, q2, q3⟩ := h5.gone hne (dl_gone c) hN hla
    exact ⟨x', s', q1, bsel_of (fun c1 => by simp at c1 <;> omega) fun _ => bsel_of (fun _ => tk q2 (bsel_of (fun c1 => by simp at c1 <;> omega) fun _ => mono q3 (by simp at hm ⊢; omega))) fun c1 => by simp at c1 <;> omega⟩
   ·have c1 : 0 < cmpCall a b := by simpa using c1
    refine ix h5.b fun m75 s76 hN => ?_
    have hne : a :: A' ≠ b :: B' := fun e => by
     have := (cmpCall_zero a b).2 (by simp at e; exact e.1)
     omega
    obtain ⟨x', s', q1, u, q2, q3⟩ := h5.come hne (dl_come c1) hN hlb
    exact ⟨x', s', q1, bsel_of (fun c1 => by simp at c1 <;> omega) fun _ => bsel_of (fun _ => tk q2 (mono q3 (by simp at hm ⊢; omega))) fun c1 => by simp at c1 <;> omega⟩
   ·have e : a = b := by
     refine (cmpCall_zero a b).1 ?_
     have c : ¬ cmpCall a b < 0 := by simpa using c
     have c1 : ¬ cmpCall a b > 0 := by simpa using c1
     omega
    have e0 : cmpCall a b = 0 := (cmpCall_zero a b).2 e
    subst e
    obtain ⟨u, k1, k2, k3, k4⟩ := tailV h5.a h5.av (by simp)
    obtain ⟨z, j1, j2, j3, j4⟩ := tailV h5.b h5.bv (by simp)
    refine bsel_of (fun _ => tk k1 (bsel_of (fun _ => tk j1 (mono (A' := A') (B' := B') (G := G) (C := C) ⟨k2, k3, fun c hc => h5.ab c (k4 c hc), j2, j3, fun c hc => h5.bb c (j4 c hc), h5.g, h5.gb, h5.gn, h5.c, h5.cb, h5.cn, h5.ap, h5.d.both, h5.f, h5.fr⟩ (by simp at hm ⊢; omega))) fun c => by simp at c <;> omega)) fun c => by simp at c <;> omega
end
end Go.Eng.S

namespace Go.Eng.S
open Go Go.Eng Go.Proofs
set_option linter.constructorNameAsVariable false
noncomputable section
attribute [local irreducible] bsel barsOf mergeB
def idxN (n : Nat) : Nat := if n < 64 then n else 64 + 32 * (n.log2 - 6) + n / 2 ^ (n.log2 - 5) - 32
theorem idxN_lt {n : Nat} (h : n < 18446744073709551616) : idxN n < 1920 := by
 unfold idxN
 split
 ·omega
 ·rename_i hn
  have h0 : n ≠ 0 := by omega
  have h1 : 2 ^ n.log2 ≤ n := Nat.log2_self_le h0
  have h2 : n < 2 ^ (n.log2 + 1) := Nat.lt_log2_self
  generalize n.log2 = k at h1 h2
  have hk : k < 64 := by
   refine Classical.byContradiction fun hc => ?_
   have : 2 ^ 64 ≤ 2 ^ k := Nat.pow_le_pow_right (by omega) (by omega)
   omega
  have hk6 : 6 ≤ k := by
   refine Classical.byContradiction fun hc => ?_
   have : 2 ^ (k + 1) ≤ 2 ^ 6 := Nat.pow_le_pow_right (by omega) (by omega)
   omega
  have : n / 2 ^ (k - 5) < 64 := by
   rw [Nat.div_lt_iff_lt_mul (Nat.pow_pos (by omega))]
   have e : 2 ^ (k + 1) = 64 * 2 ^ (k - 5) := by
    rw [show (64 : Nat) = 2 ^ 6 from rfl, ← Nat.pow_add]; congr 1; omega
   omega
  omega
def CallR.Rng (c : CallR) : Prop := (-9223372036854775808 ≤ c.hour ∧ c.hour < 9223372036854775808) ∧ 0 ≤ c.took ∧ c.took ≤ M64
def oneT (c : CallR) : Tal := ⟨(0, 1), (0, if c.failed = true then 1 else 0), (0, c.took), [((idxN c.took.toNat : Int), 1)]⟩
theorem oneT_rng {c : CallR} (h : c.Rng) : (oneT c).Rng where
 a := ⟨⟨by simp [oneT], by simp [oneT, M64]⟩, by simp [oneT], by simp [oneT, M64]⟩
 b := by
  refine ⟨⟨by simp [oneT], by simp [oneT, M64]⟩, ?_⟩
  simp only [oneT]
  split <;> simp [M64]
 c := ⟨⟨by simp [oneT], by simp [oneT, M64]⟩, h.2.1, h.2.2⟩
 l := fun p hp => by
  have := idxN_lt (n := c.took.toNat) (by have := h.2; unfold M64 at this; omega)
  have : p = ((idxN c.took.toNat : Int), 1) := by simpa [oneT] using hp
  subst this
  refine ⟨?_, ?_, ?_, ?_⟩ <;> simp only [M64] <;> omega
end
end Go.Eng.S

namespace Go.Eng.S
open Go Go.Eng Go.Proofs
set_option linter.constructorNameAsVariable false
set_option maxRecDepth 4000
noncomputable section
attribute [local irreducible] bsel barsOf mergeB
structure TC (s : St) (m : Nat) (t : Tal) (z : AV) : Prop where
 own : Own s m (t.C z)
 sl : Sl barE s z t.l
 off : m ∉ blkOf z
theorem TC.fwd {s s' : St} {m : Nat} {t : Tal} {z : AV} {M : List Nat} (h : TC s m t z) (hf : Frw M s s') (hm : m ∉ M) (hz : ∀ c, c ∈ M → c ∉ blkOf z) : TC s' m t z :=
 ⟨h.own.fwd hf hm, h.sl.beside hf fun c hc => .inr (hz c hc), h.off⟩
theorem TC.ext {s s' : St} {m : Nat} {t : Tal} {z : AV} (h : TC s m t z) (hf : Frw [] s s') : TC s' m t z := h.fwd hf (by simp) (by simp)
end
end Go.Eng.S

namespace Go.Eng.S
open Go Go.Eng Go.Proofs
set_option linter.constructorNameAsVariable false
noncomputable section
attribute [local irreducible] barsOf mergeB
structure Bnd (n : Nat) (t : Tal) : Prop where
 a : val2 t.a ≤ n * 18446744073709551615
 b : val2 t.b ≤ n * 18446744073709551615
 c : val2 t.c ≤ n * 18446744073709551615
 l : ∀ i, cnt t.l i ≤ n
theorem Bnd.zero : Bnd 0 .zero := ⟨by simp [Tal.zero, val2], by simp [Tal.zero, val2], by simp [Tal.zero, val2], fun i => by simp [Tal.zero, cnt]⟩
theorem Bnd.mono {m n : Nat} {t : Tal} (h : Bnd m t) (hmn : m ≤ n) : Bnd n t :=
 ⟨by have := h.a; omega, by have := h.b; omega, by have := h.c; omega, fun i => by have := h.l i; omega⟩
theorem cnt_le {l : List Bar} {k : Int} (h0 : 0 ≤ k) (h : ∀ p, p ∈ l → p.2 ≤ k) (i : Nat) : cnt l i ≤ k := by
 induction l with
 | nil => simpa [cnt] using h0
 | cons p q ih =>
  simp only [cnt]
  split
  ·exact h p (List.mem_cons_self ..)
  ·exact ih fun x hx => h x (List.mem_cons_of_mem _ hx)
section
attribute [local semireducible] barsOf mergeB
end
theorem Bnd.one {c : CallR} (h : c.Rng) : Bnd 1 (oneT c) := by
 have hr := oneT_rng h
 have h1 := h.2
 unfold M64 at h1
 refine ⟨?_, ?_, ?_, fun i => ?_⟩
 ·simp [oneT, val2]
 ·simp only [oneT, val2]; split <;> omega
 ·simp only [oneT, val2]; omega
 ·refine cnt_le (by omega) (fun p hp => ?_) i
  have : p = ((idxN c.took.toNat : Int), 1) := by simpa [oneT] using hp
  rw [this]; simp
end
end Go.Eng.S

namespace Go.Eng.S
open Go Go.Eng Go.Proofs
set_option linter.constructorNameAsVariable false
set_option maxRecDepth 4000
noncomputable section
attribute [local irreducible] bsel barsOf mergeB
end
end Go.Eng.S

namespace Go.Eng.S
open Go Go.Eng Go.Proofs
set_option linter.constructorNameAsVariable false
set_option maxRecDepth 4000
noncomputable section
attribute [local irreducible] bsel barsOf mergeB
end
end Go.Eng.S

namespace Go.Eng.S
open Go Go.Eng Go.Proofs
set_option linter.constructorNameAsVariable false
noncomputable section
set_option maxRecDepth 100000 in
theorem calls_read {H : Type} {enc : TypeId × Value → H} {w : World} {base : Nat} {held : Bool} {fuel : Nat} {v : Value} {x : DataW H × List MemPlace} (h : DataW.trod enc P w base (fun _ => true) held fuel T.sl_api_Call [v] = some x) :
  ∃ (a : AV) (l : List CallR), absV w.heap.size v = some a ∧ Sl callE (stW w) a l ∧ (∀ c, c ∈ l → c.Rng) ∧ l.length ≤ slcLen x.1 := by
 obtain ⟨a, l, h1, h2, h3, _, h5⟩ := slice_read2 callE CallR.Rng h Tryz.underlying48 (by kernel_rfl) fun n cs y hy hl => by
  have hl : cs.length = 5 := hl
  obtain ⟨xs, n, _, _, _, hx, hf⟩ := DataW.trod_struct Tryz.underlying26 hy
  change xs.length = 4 at hx
  have hf' := fun i f (hf0 : _) => hf i f hf0
  have g0 := hf' 0 _ rfl
  have g1 := hf' 1 _ rfl
  have g2 := hf' 2 _ rfl
  have g3 := hf' 3 _ rfl
  rw [List.getElem?_eq_getElem (by omega)] at g0 g1 g2 g3
  change DataW.trod enc P w base (fun _ => true) held n T.int64 (List.take (P.cellsOf T.int64) (List.drop 0 cs)) = _ at g0
  change DataW.trod enc P w base (fun _ => true) held n T.api_Edge (List.take (P.cellsOf T.api_Edge) (List.drop 1 cs)) = _ at g1
  change DataW.trod enc P w base (fun _ => true) held n T.ybool_4 (List.take (P.cellsOf T.ybool_4) (List.drop 3 cs)) = _ at g2
  change DataW.trod enc P w base (fun _ => true) held n T.uint64 (List.take (P.cellsOf T.uint64) (List.drop 4 cs)) = _ at g3
  obtain ⟨hr, e0, _, w0⟩ := DataW.trod_int Tryz.underlying2 g0
  obtain ⟨xs1, n1, _, _, hl1, hx1, hf1⟩ := DataW.trod_struct Tryz.underlying23 g1
  obtain ⟨bd, e2, _⟩ := DataW.trod_bool Tryz.underlying4 g2
  obtain ⟨sf, e3, _, w3⟩ := DataW.trod_int Tryz.underlying24 g3
  rw [show P.cellsOf T.int64 = 1 by kernel_rfl] at e0
  rw [show P.cellsOf T.ybool_4 = 1 by kernel_rfl] at e2
  rw [show P.cellsOf T.uint64 = 1 by kernel_rfl] at e3
  change xs1.length = 2 at hx1
  have k0 := hf1 0 _ rfl
  have k1 := hf1 1 _ rfl
  rw [List.getElem?_eq_getElem (by omega)] at k0 k1
  rw [show P.cellsOf T.api_Edge = 2 by kernel_rfl] at k0 k1
  change DataW.trod enc P w base (fun _ => true) held n1 T.ystring_9 (List.take (P.cellsOf T.ystring_9) (List.drop 0 (List.take 2 (List.drop 1 cs)))) = _ at k0
  change DataW.trod enc P w base (fun _ => true) held n1 T.ystring_9 (List.take (P.cellsOf T.ystring_9) (List.drop 1 (List.take 2 (List.drop 1 cs)))) = _ at k1
  obtain ⟨s0, e4, _, _⟩ := DataW.trod_string Tryz.underlying9 k0
  obtain ⟨s1, e5, _, _⟩ := DataW.trod_string Tryz.underlying9 k1
  rw [show P.cellsOf T.ystring_9 = 1 by kernel_rfl] at e4 e5
  obtain ⟨v0, v1, v2, v3, v4, rfl⟩ : ∃ v0 v1 v2 v3 v4, cs = [v0, v1, v2, v3, v4] := by
   match cs, hl with
   | [v0, v1, v2, v3, v4], _ => exact ⟨v0, v1, v2, v3, v4, rfl⟩
  simp at e0 e2 e3 e4 e5
  subst e0; subst e2; subst e3; subst e4; subst e5
  have h1 := bounds_i64 w0
  have h2 := bounds_u64 w3
  refine ⟨⟨hr, (s0, s1), bd, sf⟩, ⟨⟨h1.1, show hr < _ by omega⟩, h2.1, h2.2⟩, fun j hj => ?_⟩
  match j, hj with
  | 0, _ => exact ⟨_, _, rfl, rfl, rfl⟩
  | 1, _ => exact ⟨_, _, rfl, rfl, rfl⟩
  | 2, _ => exact ⟨_, _, rfl, rfl, rfl⟩
  | 3, _ => exact ⟨_, _, rfl, rfl, rfl⟩
  | 4, _ => exact ⟨_, _, rfl, rfl, rfl⟩
 exact ⟨a, l, h1, h2, h3, h5⟩
end
end Go.Eng.S

