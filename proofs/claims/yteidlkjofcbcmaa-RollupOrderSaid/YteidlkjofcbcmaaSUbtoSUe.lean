/-
  Windows are held against one another; one rollup is put into another one.
  What is put, summed up; windows that are alike.
  'RollupOrder': the walk.
  'RollupOrder': the walk, from what a row hands in.
-/
import Derived.Test.YteidlkjofcbcmaaSRztoSUa
import Derived.Test.YteidlkjofcbcmaaSVs3to2
import Derived.Test.YteidlkjofcbcmaaW15to24
namespace Go.Eng.S
open Go Go.Eng Go.Proofs
set_option linter.constructorNameAsVariable false
set_option maxRecDepth 4000
noncomputable section
attribute [local irreducible] bsel barsOf mergeB

def winK (w : WinR) : Int × Int × List (Edge × Tal) := (w.at_, w.width, etP w.L)
/-- Windows that read. -/
structure WinD (s : St) (x : AV) (W : List WinR) : Prop where
  sl : Sl winE s x W
  each : ∀ w, w ∈ W → Sl etE s w.x w.L ∧ (∀ y, y ∈ w.L → Sl barE s y.2.2 y.2.1.l) ∧ w.L.length < 4611686018427387904 ∧ ∀ y, y ∈ w.L → y.2.1.l.length < 4611686018427387904
theorem WinD.ext {s s' : St} {x : AV} {W : List WinR} (h : WinD s x W) (f : Frw [] s s') : WinD s' x W := ⟨h.sl.ext f, fun w hw => by
  obtain ⟨h1, h2, h3, h4⟩ := h.each w hw
  exact ⟨h1.ext f, fun y hy => (h2 y hy).ext f, h3, h4⟩⟩
theorem SameWindows_ok {s : St} {x y : AV} {W V : List WinR} (hx : WinD s x W) (hy : WinD s y V) (he : W.map winK = V.map winK) (hn : W.length < 4611686018427387904) :
    CallsD P F.spoorref15_SameWindows [x, y] s fun v s' => (v = .bool true ∧ Frw [] s s') ∧ Fr s' := by
  refine CallsD.of fun hfr => vc.spoorref15_SameWindows_ok ?_
  have hl : W.length = V.length := by
    have := congrArg List.length he
    simpa using this
  refine hx.sl.slen (hy.sl.slen (bsel_of (fun c => by simp [hl] at c) fun _ => ?_))
  refine ⟨fun n s6 m => ∃ k : Nat, n = k ∧ m = W.length - k ∧ k ≤ W.length ∧ Frw [] s s6 ∧ Fr s6, ⟨_, 0, rfl, rfl, by omega, .refl _ _, hfr⟩, ?_⟩
  rintro _ s6 m7 ⟨k, rfl, hm7, hk, f6, hfr6⟩
  have hx6 := hx.ext f6
  refine hx6.sl.slen (bsel_of (fun c => ?_) fun c => ⟨rfl, f6⟩)
  have c : k < W.length := by simp only [decide_eq_true_eq] at c; omega
  have cv : k < V.length := by omega
  have hkey : winK W[k] = winK V[k] := by
    have h1 : (W.map winK)[k]? = (V.map winK)[k]? := by rw [he]
    rw [List.getElem?_map, List.getElem?_map, List.getElem?_eq_getElem c, List.getElem?_eq_getElem cv] at h1
    simpa using h1
  simp only [winK, Prod.mk.injEq] at hkey
  obtain ⟨e1, e2, e3⟩ := hkey
  intro s9 hB
  have hx9 := hx6.ext hB.fwd
  have hy9 := (hy.ext f6).ext hB.fwd
  refine hx9.sl.ixs rfl rfl c fun b1 o1 hR1 => ⟨_, hR1.ld1 0 rfl, hy9.sl.ixs rfl rfl cv fun b2 o2 hR2 => ⟨_, hR2.ld1 0 rfl, bsel_of (fun cc => by rw [e1] at cc; simp at cc) fun _ => ?_⟩⟩
  refine hx9.sl.ixs rfl rfl c fun b3 o3 hR3 => ⟨_, hR3.ld1 1 rfl, hy9.sl.ixs rfl rfl cv fun b4 o4 hR4 => ⟨_, hR4.ld1 1 rfl, bsel_of (fun cc => by rw [e2] at cc; simp at cc) fun _ => ?_⟩⟩
  refine hx9.sl.ixs rfl rfl c fun b5 o5 hR5 => ⟨_, hR5.ld1 2 rfl, hy9.sl.ixs rfl rfl cv fun b6 o6 hR6 => ⟨_, hR6.ld1 2 rfl, ?_⟩⟩
  obtain ⟨p1, p2, p3, p4⟩ := hx9.each _ (List.getElem_mem c)
  obtain ⟨q1, q2, _, _⟩ := hy9.each _ (List.getElem_mem cv)
  refine (SameEdges_ok p1 q1 p2 q2 e3 p3 p4).mono ?_
  rintro _ s29 ⟨⟨rfl, f29⟩, hfr29⟩
  exact ⟨true, rfl, bsel_of (fun c => by simp at c) fun _ => ⟨W.length - (k + 1), by omega, k + 1, wr_succ (by omega), rfl, by omega, f6.trans (hB.fwd.trans f29), hfr29⟩⟩

/-! ### What is put into another one -/
def mergeG (G G2 : RollF) : RollF := fun h e => (G h e).plus (G2 h e)
def rowK (p : PutR) : Int × Edge := (p.hour, p.edge)
theorem putG_at {G : RollF} {p : PutR} (h : 0 ≤ p.hour ∧ p.hour < 2097152) (ho : p.tal.ok = true) : putG G p = setF G p.hour p.edge ((G p.hour p.edge).plus p.tal) := by
  unfold putG putR
  rw [if_pos h, if_pos ho]
theorem fill_rows : ∀ (R : List PutR) (G : RollF), (R.map rowK).Nodup → (∀ p, p ∈ R → (0 ≤ p.hour ∧ p.hour < 2097152) ∧ p.tal.ok = true) →
    (∀ h e, (h, e) ∉ R.map rowK → fillG G R h e = G h e) ∧ ∀ p, p ∈ R → fillG G R p.hour p.edge = (G p.hour p.edge).plus p.tal
  | [], G, _, _ => ⟨fun _ _ _ => rfl, fun p hp => by simp at hp⟩
  | q :: R, G, hn, hr => by
    have hn2 := List.nodup_cons.1 hn
    obtain ⟨ih1, ih2⟩ := fill_rows R (putG G q) hn2.2 fun p hp => hr p (List.mem_cons_of_mem _ hp)
    have hq := hr q (List.mem_cons_self ..)
    have hput := putG_at (G := G) hq.1 hq.2
    have hfill : fillG G (q :: R) = fillG (putG G q) R := rfl
    refine ⟨fun h e hne => ?_, fun p hp => ?_⟩
    · have h1 : (h, e) ∉ R.map rowK := fun hc => hne (List.mem_cons_of_mem _ hc)
      rw [hfill, ih1 h e h1, hput]
      unfold setF
      rw [if_neg]
      rintro ⟨rfl, rfl⟩
      exact hne (List.mem_cons_self ..)
    · rw [hfill]
      rcases List.mem_cons.1 hp with rfl | hp
      · rw [ih1 _ _ hn2.1, hput]
        unfold setF
        rw [if_pos ⟨rfl, rfl⟩]
      · rw [ih2 p hp, hput]
        unfold setF
        rw [if_neg]
        rintro ⟨e1, e2⟩
        exact hn2.1 (List.mem_map.2 ⟨p, hp, by simp [rowK, e1, e2]⟩)
theorem ty.sl_rollup_row : D.ty.get T.sl_rollup_row = some { d := .slice 101, size := 1, bytes := 24, zero := (some .nilslice), held := false } := by kernel_rfl
theorem ty.rollup_row : D.ty.get T.rollup_row = some { d := .struct [(2, 0, true), (45, 1, true), (51, 3, true)], size := 10, bytes := 112, zero := (some (.agg ([(.int .i64 0)] ++ ([(.str .empty)] ++ [(.str .empty)]) ++ (([(.int .u64 0)] ++ [(.int .u64 0)]) ++ ([(.int .u64 0)] ++ [(.int .u64 0)]) ++ ([(.int .u64 0)] ++ [(.int .u64 0)]) ++ [.nilslice])))), held := false } := by kernel_rfl
/-- Rows that have been taken down so far. -/
structure RowL (s s' : St) (G2 : RollF) (fp2 : List Nat) (x : AV) (R : List PutR) (C : Int → Edge → Prop) : Prop where
  so : So putE s' x R
  new : ∀ c, c ∈ blkOf x → s.h.get c = none
  nd : (R.map rowK).Nodup
  each : ∀ p, p ∈ R → p.tal = G2 p.hour p.edge ∧ Sl barE s p.bars p.tal.l ∧ ∀ c, c ∈ blkOf p.bars → c ∈ fp2
  mem : ∀ h e, (h, e) ∈ R.map rowK ↔ (G2 h e ≠ .zero ∧ C h e)
theorem RowL.ext {s s' s2 : St} {G2 : RollF} {fp2 : List Nat} {x : AV} {R : List PutR} {C : Int → Edge → Prop} (h : RowL s s' G2 fp2 x R C) (f : Frw [] s' s2) : RowL s s2 G2 fp2 x R C := ⟨h.so.ext f, h.new, h.nd, h.each, h.mem⟩
theorem RowL.iter {s s' s2 : St} {G2 : RollF} {fp2 : List Nat} {x : AV} {R : List PutR} {C : Int → Edge → Prop} {it : Nat} (h : RowL s s' G2 fp2 x R C) (f : Frw [it] s' s2) (hn : NoCells s' it) : RowL s s2 G2 fp2 x R C :=
  ⟨h.so.besideN f fun c hc => by
    have : c = it := by simpa using hc
    rw [this]; exact .inl hn, h.new, h.nd, h.each, h.mem⟩
theorem RowL.le {s s' : St} {G2 : RollF} {fp2 : List Nat} {x : AV} {R : List PutR} {C : Int → Edge → Prop} (h : RowL s s' G2 fp2 x R C) {K0 : List (Int × Edge)} (hK : ∀ h e, G2 h e ≠ .zero → (h, e) ∈ K0) : R.length ≤ K0.length := by
  have := nodup_length_le h.nd (b := K0) fun p hp => hK p.1 p.2 ((h.mem p.1 p.2).1 hp).1
  rwa [List.length_map] at this
theorem moved2 {sB s1 s2 : St} {fpB fp fp' : List Nat} {x : AV} {K : List PutR} (hso : So putE s1 x K) (hsep : ∀ c, c ∈ blkOf x → c ∉ fp) (hsub : ∀ c, c ∈ fp → c ∈ fpB ∨ sB.h.get c = none) (hs : ∀ c, c ∈ fp' → c ∈ fp ∨ s1.h.get c = none) (f : Frw fp s1 s2) (hB : Frw fpB sB s1) :
    So putE s2 x K ∧ (∀ c, c ∈ blkOf x → c ∉ fp') ∧ (∀ c, c ∈ fp' → c ∈ fpB ∨ sB.h.get c = none) ∧ Frw fpB sB s2 := by
  refine ⟨So.beside hso f fun c hc hcx => hsep c hcx hc, fun c hc hcf => ?_, fun c hc => ?_, ⟨fun c o hc ho => f.1 c o (fun hcf => ?_) (hB.1 c o hc ho), Nat.le_trans hB.2.1 f.2.1, f.2.2.trans hB.2.2⟩⟩
  · rcases hs c hcf with h1 | h1
    · exact hsep c hc h1
    · exact hso.there c hc h1
  · rcases hs c hc with h1 | h1
    · exact hsub c h1
    · by_cases c1 : c ∈ fpB
      · exact .inl c1
      · exact .inr (hB.none h1 c1)
  · rcases hsub c hcf with h1 | h1
    · exact hc h1
    · rw [h1] at ho; simp at ho

set_option maxHeartbeats 2000000 in
theorem MergeR_ok {s0 s : St} {r o : Nat} {fan : Int} {G G2 : RollF} {fp fp2 : List Nat} (h : RollO s0 s r fan G fp) (f0 : Frw [] s0 s) (ho : Roll s o fan G2 fp2) (hdis : ∀ c, c ∈ fp → c ∉ fp2) {K0 : List (Int × Edge)} (hK : ∀ h e, G2 h e ≠ .zero → (h, e) ∈ K0) (hb : (K0.length + 1 + (K0.length + 1) / 4 + 600) * 112 ≤ pow48) :
    CallsA P F.p_rollup_Rollup_Merge [.ptr r 0, .ptr o 0] s fun v s' => (v = .int .i64 0 ∧ ∃ fp', RollO s0 s' r fan (mergeG G G2) fp' ∧ (∀ c, c ∈ fp' → c ∈ fp ∨ s.h.get c = none)) ∧ Frw fp s s' ∧ Frw [] s0 s' ∧ Fr s' := by
  have hG2 := ho.good
  have hG := h.roll.good
  have hbn : K0.length < 4611686018427387904 := by unfold pow48 at hb; omega
  obtain ⟨m, M, hS⟩ := ho
  refine CallsA.fr fun hfr => vc.p_rollup_Rollup_Merge_ok fun s1 hB => nilK_ptr (bsel_of (fun c => by simp at c) fun _ => ?_)
  have hS1 := hS.fwd hB.fwd (by simp)
  have hr1 : Own s1 r _ := (h.roll.ext hB.fwd).choose_spec.choose_spec.own
  refine ptrK_of ⟨fan, hS1.own.ld1 0 rfl, ptrK_of ⟨fan, hr1.ld1 0 rfl, bsel_of (fun c => by simp at c) fun _ => ?_⟩⟩
  obtain ⟨it, s5, r1, r2, r3, r4, r5, r6⟩ := hS1.map.range ty.map_int64_rollup_edges rfl hB.fr
  have hnd : (M.map (·.1)).Nodup := hS.map.nodup
  have hkey' : ∀ hh e, G2 hh e ≠ .zero → hh ∈ M.map (·.1) := fun hh e he => by
    refine Classical.byContradiction fun hn => he ?_
    exact hS.none hh (mget_none.2 hn) e
  refine ptrK_of ⟨_, hS1.own.ld1 1 rfl, it, s5, r1, fun x16 s17 m18 => ∃ vis rem R, m18 = rem.length ∧ IterS hourF s17 it m M rem ∧ (vis ++ rem.map (·.1)).Perm (M.map (·.1)) ∧ RowL s s17 G2 fp2 x16 R (fun h _ => h ∈ vis) ∧ Frw [] s s17 ∧ Fr s17, ⟨M.length, [], M, [], rfl, r2, by simp, ⟨.nil _ _, by simp [blkOf], by simp, by simp, fun h e => by simp⟩, hB.fwd.trans r3, r4⟩, ?_⟩
  rintro x16 s17 m18 ⟨vis, rem, R, rfl, hit, hperm, hRow, hfw, hfr17⟩
  obtain ⟨l, n1, n2⟩ := hit.entry
  refine ⟨l, n1, fun x20 s21 hm => ?_⟩
  rcases n2 x20 s21 hm with ⟨rfl, rfl, rfl⟩ | ⟨ra, hh, x, rc, rfl, rfl, hit', w1, w2, w3, w4, hent⟩
  · -- all rows are taken down: they are put
    refine .inl ⟨rfl, hRow.so.sl.slen ?_⟩
    have hp : vis.Perm (M.map (·.1)) := by simpa using hperm
    have hRl := hRow.le hK
    have hrow : ∀ p, p ∈ R → (0 ≤ p.hour ∧ p.hour < 2097152) ∧ p.tal.ok = true := fun p hp => by
      have hne := ((hRow.mem p.hour p.edge).1 (List.mem_map.2 ⟨p, hp, rfl⟩)).1
      exact ⟨hG2.hour _ _ hne, by rw [(hRow.each p hp).1]; exact hG2.ok _ _⟩
    obtain ⟨g1, g2⟩ := fill_rows R G hRow.nd hrow
    have hfin : fillG G R = mergeG G G2 := by
      funext hh e
      by_cases hc : (hh, e) ∈ R.map rowK
      · obtain ⟨p, hp, he⟩ := List.mem_map.1 hc
        simp only [rowK, Prod.mk.injEq] at he
        have := g2 p hp
        rw [he.1, he.2, (hRow.each p hp).1, he.1, he.2] at this
        exact this
      · rw [g1 hh e hc]
        have hz : G2 hh e = .zero := by
          refine Classical.byContradiction fun hn => hc ((hRow.mem hh e).2 ⟨hn, hp.mem_iff.2 (hkey' hh e hn)⟩)
        show G hh e = (G hh e).plus (G2 hh e)
        rw [hz, Tal.plus_zero (hG.rng hh e) (hG.ok hh e)]
    refine ⟨fun n25 s26 m27 => ∃ (k : Nat) (fpk : List Nat), n25 = k ∧ m27 = R.length - k ∧ k ≤ R.length ∧ RollO s0 s26 r fan (fillG G (R.take k)) fpk ∧ (∀ c, c ∈ fpk → c ∈ fp ∨ s.h.get c = none) ∧ So putE s26 x16 R ∧ (∀ c, c ∈ blkOf x16 → c ∉ fpk) ∧ Frw fp s s26 ∧ Frw [] s0 s26 ∧ Fr s26, ⟨_, 0, fp, rfl, rfl, by omega, h.ext hfw, fun c hc => .inl hc, hRow.so, fun c hc hcf => h.there c hcf (hRow.new c hc), hfw.mono (by simp), f0.trans hfw, hfr17⟩, ?_⟩
    rintro _ s26 m27 ⟨k, fpk, rfl, hm27, hk, z1, z2, z3, z4, z5, z6, z7⟩
    refine bsel_of (fun c => ?_) fun c => ?_
    · have c : k < R.length := by simp only [decide_eq_true_eq] at c; omega
      obtain ⟨ht, hbar, hblk⟩ := hRow.each _ (List.getElem_mem c)
      have hbar26 : Sl barE s26 R[k].bars R[k].tal.l := hbar.beside z5 fun d hd => .inr fun hdx => hdis d hd (hblk d hdx)
      refine z3.sl.ixs rfl rfl c fun b1 o1 hR1 => ⟨_, _, _, _, _, _, _, _, _, R[k].bars, hR1.all rfl, fun m40 s41 hN => ?_⟩
      have hone : ones (putF R[k]) = true := by have := hbar26.onesx []; simpa [putF, ones] using this
      obtain ⟨s42, w1, w2, w3, w4, w5, w6⟩ := hN.own.wrAll (putF R[k]) hone rfl
      have f42 : Frw [] s26 s42 := hN.fwd.step w3 (by simpa using hN.gone)
      have hfr42 : Fr s42 := hN.fr.wr hN.own.there w4 w6
      refine ⟨s42, w1, _, w2.ld1 0 rfl, _, _, w2.ldN 1 2 (by simp [putF]), _, _, _, _, _, _, R[k].bars, w2.ldN 3 7 (by simp [putF]), ?_⟩
      have hfine : FineP s42 R[k] := ⟨hbar26.ext f42, by rw [ht]; exact hG2.rng _ _⟩
      refine (put_step (p := R[k]) (z1.ext f42) (z6.trans f42) hfine).a.mono ?_
      rintro _ s54 ⟨⟨rfl, fp', t1, t2⟩, t3, t4, t5⟩
      obtain ⟨q1, q2, q3, q4⟩ := moved2 (z3.ext f42) z4 z2 t2 t4 (z5.trans (f42.mono (by simp)))
      refine ⟨_, rfl, R.length - (k + 1), by omega, k + 1, fp', wr_succ (by omega), rfl, by omega, ?_, q3, q1, q2, q4, t3, t5⟩
      rw [← List.take_append_getElem c]
      unfold fillG at t1 ⊢
      rw [List.foldl_append]
      exact t1
    · have c : k = R.length := by simp only [decide_eq_false_iff_not] at c; omega
      rw [c, List.take_length, hfin] at z1
      exact ⟨⟨rfl, fpk, z1, z2⟩, z5, z6, z7⟩
  · -- an hour
    have hits : s.h.get it = none := hB.fwd.none r5 (by simp)
    have hito : s17.h.get it ≠ none := by
      obtain ⟨es, ck, sn, _, _, _, _, g, _⟩ := hit
      rw [g]; simp
    have f21 : Frw [] s s21 := hfw.step w1 (fun c hc => by
      have : c = it := by simpa using hc
      rw [this]; exact hits)
    have hfr21 : Fr s21 := hfr17.wr hito w2 w4
    have hRow21 := hRow.iter w1 hit.noCells
    have hperm' : ((vis ++ [hh]) ++ (ra ++ rc).map (·.1)).Perm (M.map (·.1)) := by
      refine List.Perm.trans ?_ hperm
      simp only [List.map_append, List.map_cons, List.append_assoc]
      refine List.Perm.append_left _ ?_
      simpa using List.perm_middle.symm
    have hnv : hh ∉ vis := by
      have := hperm.nodup_iff.2 hnd
      rw [List.nodup_append] at this
      intro hc
      exact this.2.2 _ hc hh (by simp) rfl
    have hx : mget M hh = some x := mget_of_mem hnd (hit.sub _ (by simp))
    obtain ⟨bI, NI, rfl, hi, hbf, hbm⟩ := hS.inner hh x hx
    have hi21 := hi.fwd (fp' := fp2) f21 (by simp) (by simp) fun c hc => hc
    obtain ⟨it4, s62, t1, t2, t3, t4, t5, t6⟩ := hi21.map.range ty.rollup_edges rfl hfr21
    have hndI := hi.map.nodup
    refine .inr ⟨hh, .map bI, rfl, hh, .map bI, hent, it4, s62, t1, fun x65 s66 m67 => ∃ proc rem4 R', m67 = rem4.length ∧ IterS edgeF s66 it4 bI NI rem4 ∧ (proc ++ rem4.map (·.1)).Perm (NI.map (·.1)) ∧ RowL s s66 G2 fp2 x65 R' (fun h e => h ∈ vis ∨ (h = hh ∧ e ∈ proc)) ∧ IterS hourF s66 it m M (ra ++ rc) ∧ Frw [] s s66 ∧ Fr s66, ⟨NI.length, [], NI, R, rfl, t2, by simp, ?_, hit'.ext t3, f21.trans t3, t4⟩, ?_⟩
    · have := hRow21.ext t3
      exact ⟨this.so, this.new, this.nd, this.each, fun h e => by rw [this.mem]; simp⟩
    rintro x65 s66 m67 ⟨proc, rem4, R', rfl, hit4, hperm4, hRow4, hitm, hfw66, hfr66⟩
    obtain ⟨l4, n5, n6⟩ := hit4.entry
    refine ⟨l4, n5, fun x69 s70 hm4 => ?_⟩
    rcases n6 x69 s70 hm4 with ⟨rfl, rfl, rfl⟩ | ⟨ra4, e, v, rc4, rfl, rfl, hit4', y1, y2, y3, y4, hent4⟩
    · refine .inl ⟨rfl, (ra ++ rc).length, by simp, vis ++ [hh], ra ++ rc, R', rfl, hitm, hperm', ⟨hRow4.so, hRow4.new, hRow4.nd, hRow4.each, fun h e => ?_⟩, hfw66, hfr66⟩
      rw [hRow4.mem]
      have hp : proc.Perm (NI.map (·.1)) := by simpa using hperm4
      refine ⟨fun ⟨a, b⟩ => ⟨a, ?_⟩, fun ⟨a, b⟩ => ⟨a, ?_⟩⟩
      · rcases b with b | ⟨rfl, _⟩
        · exact List.mem_append_left _ b
        · simp
      · rcases List.mem_append.1 b with b | b
        · exact .inl b
        · have : h = hh := by simpa using b
          subst this
          refine .inr ⟨rfl, hp.mem_iff.2 ?_⟩
          refine Classical.byContradiction fun hn => a ?_
          exact hi.none e (mget_none.2 hn)
    · obtain ⟨e1, e2⟩ := e
      have hmem : ((e1, e2), v) ∈ NI := hit4.sub _ (by simp)
      obtain ⟨z, rfl, hz0, hne0, hzf⟩ := hi.some (e1, e2) v (mget_of_mem hndI hmem)
      have hnp : (e1, e2) ∉ proc := by
        have := hperm4.nodup_iff.2 hndI
        rw [List.nodup_append] at this
        intro hc
        exact this.2.2 _ hc (e1, e2) (by simp) rfl
      have hz66 : Sl barE s66 z (G2 hh (e1, e2)).l := (hz0.ext hfw66).sl
      generalize hT : G2 hh (e1, e2) = T0 at hz0 hne0 hz66 hent4 ⊢
      refine .inr ⟨_, _, _, _, _, _, _, _, z, rfl, _, _, _, _, _, _, _, _, z, hent4, ?_⟩
      intro m90 s91 h90 m92 s93 h92
      have hiter : s66.h.get it4 ≠ none := by
        obtain ⟨es, ck, sn, _, _, _, _, g, _⟩ := hit4
        rw [g]; simp
      have hfr70 : Fr s70 := hfr66.wr hiter y2 y4
      have f70 : Frw [] s s70 := hfw66.step y1 (fun c hc => by
        have : c = it4 := by simpa using hc
        rw [this]; exact f21.none t5 (by simp))
      have hz70 : Sl barE s70 z T0.l := (hz0.ext f70).sl
      have hRow70 := hRow4.iter y1 hit4.noCells
      obtain ⟨s94, w5, o90, w6, w7, w8, w9⟩ := (h90.own.ext h92.fwd).wrAll [.str e1, .str e2] rfl rfl
      have g94 : Frw [] s70 s94 := (h90.fwd.trans h92.fwd).step w6 (by simpa using h90.gone)
      have hne : m92 ≠ m90 := (h92.ne h90.own.there).symm
      have o92 := h92.own.fwd w6 (by simpa using hne)
      obtain ⟨s95, w10, o92', w11, w12, w13, w14⟩ := o92.wrAll (T0.C z) (hz70.onesx []) rfl
      have g95 : Frw [] s70 s95 := g94.step w11 (by
        intro c hc
        have : c = m92 := by simpa using hc
        rw [this]; exact h90.fwd.none h92.gone (by simp))
      have o90' := o90.fwd w11 (by simpa using hne.symm)
      refine ⟨s94, w5, s95, w10, _, _, o90'.all rfl, _, _, _, _, _, _, z, o92'.all rfl, fun m105 s106 hN => ?_⟩
      have g106 := g95.trans hN.fwd
      have hRow106 := hRow70.ext g106
      have hle := hRow106.le hK
      have hnew : (hh, (e1, e2)) ∉ R'.map rowK := fun hc => by
        rcases ((hRow106.mem _ _).1 hc).2 with h1 | ⟨_, h1⟩
        · exact hnv h1
        · exact hnp h1
      have hnd' : ((R' ++ [(⟨hh, (e1, e2), T0, z⟩ : PutR)]).map rowK).Nodup := by
        rw [List.map_append, List.nodup_append]
        refine ⟨hRow106.nd, by simp, fun a ha b hb => ?_⟩
        have : b = (hh, (e1, e2)) := by simpa [rowK] using hb
        rw [this]
        rintro rfl
        exact hnew ha
      have hle' : R'.length + 1 ≤ K0.length := by
        have := nodup_length_le hnd' (b := K0) fun p hp => by
          rw [List.map_append] at hp
          rcases List.mem_append.1 hp with hp | hp
          · exact hK p.1 p.2 ((hRow106.mem p.1 p.2).1 hp).1
          · have : p = (hh, (e1, e2)) := by simpa [rowK] using hp
            rw [this]
            exact hK hh (e1, e2) (by rw [hT]; exact hne0)
        simpa using this
      obtain ⟨x107, s108, q1, q2, q3, q4, q5, q6⟩ := So.append' (a := (⟨hh, (e1, e2), T0, z⟩ : PutR)) hRow106.so ty.sl_rollup_row rfl ty.rollup_row rfl rfl rfl (by have := hz70.onesx []; simpa [ones] using this) hN.own.rd rfl (Nat.le_trans (Nat.mul_le_mul_right 112 (by omega)) hb) (by unfold pow48 at hb ⊢; omega) hN.fr
      have f106 : Frw [] s s106 := f70.trans g106
      have hx3 : ∀ c, c ∈ blkOf x65 → c ≠ it4 ∧ c ≠ bI ∧ c ≠ it ∧ c ≠ m := by
        intro c hc
        have hc66 := hRow4.so
        rcases hc66 with ⟨rfl, _⟩ | ⟨b1, k1, n1, c1, rfl, g2, g3, g4⟩
        · simp [blkOf] at hc
        · have : c = b1 := by simpa [blkOf] using hc
          rw [this]
          refine ⟨?_, ?_, ?_, ?_⟩
          · rintro rfl; exact hit4.noCells _ _ _ g3
          · rintro rfl; exact (hi.map.ext hfw66).noCells _ _ _ g3
          · rintro rfl; exact hitm.noCells _ _ _ g3
          · rintro rfl; exact (hS.map.ext hfw66).noCells _ _ _ g3
      refine ⟨x107, s108, q1, (ra4 ++ rc4).length, by simp, proc ++ [(e1, e2)], ra4 ++ rc4, _, rfl, (hit4'.ext g106).fwd q3 (fun hc => (hx3 _ hc).2.1 rfl) (fun hc => (hx3 _ hc).1 rfl), ?_, ⟨q2, fun c hc => ?_, hnd', fun p hp => ?_, fun h e => ?_⟩, ?_, f106.step q3 hRow106.new, q5⟩
      · refine List.Perm.trans ?_ hperm4
        simp only [List.map_append, List.map_cons, List.append_assoc]
        refine List.Perm.append_left _ ?_
        simpa using List.perm_middle.symm
      · rw [q4] at hc
        have : c = s106.nx := by simpa using hc
        rw [this]
        exact f106.none (hN.fr _ (Nat.le_refl _)) (by simp)
      · rcases List.mem_append.1 hp with hp | hp
        · exact hRow106.each p hp
        · have : p = ⟨hh, (e1, e2), T0, z⟩ := by simpa using hp
          rw [this]
          exact ⟨hT.symm, hz0.sl, hzf⟩
      · rw [List.map_append, List.mem_append, hRow106.mem]
        constructor
        · rintro (⟨a, b⟩ | a)
          · refine ⟨a, ?_⟩
            rcases b with b | ⟨b1, b2⟩
            · exact .inl b
            · exact .inr ⟨b1, List.mem_append_left _ b2⟩
          · have : (h, e) = (hh, (e1, e2)) := by simpa [rowK] using a
            simp only [Prod.mk.injEq] at this
            obtain ⟨rfl, rfl⟩ := this
            exact ⟨by rw [hT]; exact hne0, .inr ⟨rfl, by simp⟩⟩
        · rintro ⟨a, b⟩
          rcases b with b | ⟨rfl, b⟩
          · exact .inl ⟨a, .inl b⟩
          · rcases List.mem_append.1 b with b | b
            · exact .inl ⟨a, .inr ⟨rfl, b⟩⟩
            · have : e = (e1, e2) := by simpa using b
              subst this
              exact .inr (by simp [rowK])
      · have hit4s : s21.h.get it4 = none := t5
        have hitne : it ≠ it4 := by
          rintro rfl
          have : s21.h.get it ≠ none := by
            obtain ⟨es, ck, sn, _, _, _, _, g, _⟩ := hit'
            rw [g]; simp
          exact this hit4s
        have hmit4 : m ≠ it4 := by
          rintro rfl
          exact (hS.map.ext f21).there hit4s
        exact ((hitm.fwd y1 (by simpa using hmit4) (by simpa using hitne)).ext g106).fwd q3 (fun hc => (hx3 _ hc).2.2.2 rfl) (fun hc => (hx3 _ hc).2.2.1 rfl)
end
end Go.Eng.S

namespace Go.Eng.S
open Go Go.Eng Go.Proofs
set_option linter.constructorNameAsVariable false
set_option maxRecDepth 4000
noncomputable section
attribute [local irreducible] bsel barsOf mergeB

open Classical in
/-- What one put gives to an hour's edge. -/
def ptG (p : PutR) (h : Int) (e : Edge) : GT := if hc : (p.hour = h ∧ p.edge = e) ∧ (0 ≤ p.hour ∧ p.hour < 2097152) ∧ p.tal.ok = true ∧ p.tal.Rng then ⟨p.tal, hc.2.2⟩ else .zero
def ptS (l : List PutR) (h : Int) (e : Edge) : GT := gsum (l.map fun p => ptG p h e)
theorem putG_sum {G : RollF} {p : PutR} (hr : p.tal.Rng) {h : Int} {e : Edge} {g : GT} (hg : G h e = g.1) : putG G p h e = (g.plus (ptG p h e)).1 := by
  unfold ptG
  by_cases hc : (p.hour = h ∧ p.edge = e) ∧ (0 ≤ p.hour ∧ p.hour < 2097152) ∧ p.tal.ok = true ∧ p.tal.Rng
  · rw [dif_pos hc, putG_at hc.2.1 hc.2.2.1]
    unfold setF
    obtain ⟨rfl, rfl⟩ := hc.1
    rw [if_pos ⟨rfl, rfl⟩, hg]
    rfl
  · rw [dif_neg hc, GT.plus_zero, ← hg]
    unfold putG putR
    split
    · rename_i h1
      split
      · rename_i h2
        simp only [setF]
        rw [if_neg]
        rintro ⟨rfl, rfl⟩
        exact hc ⟨⟨rfl, rfl⟩, h1, h2, hr⟩
      · rfl
    · rfl
theorem fill_sum : ∀ (l : List PutR) (_ : ∀ p, p ∈ l → p.tal.Rng) {G : RollF} {h : Int} {e : Edge} {g : GT} (_ : G h e = g.1), fillG G l h e = (g.plus (ptS l h e)).1
  | [], _, G, h, e, g, hg => by
    show G h e = (g.plus .zero).1
    rw [GT.plus_zero, hg]
  | p :: l, hr, G, h, e, g, hg => by
    have h1 := putG_sum (hr p (List.mem_cons_self ..)) hg
    have := fill_sum l (fun q hq => hr q (List.mem_cons_of_mem _ hq)) (G := putG G p) h1
    show fillG (putG G p) l h e = (g.plus ((ptG p h e).plus (ptS l h e))).1
    rw [this, GT.assoc]
theorem fill0 {l : List PutR} (hr : ∀ p, p ∈ l → p.tal.Rng) (h : Int) (e : Edge) : fillG zeroF l h e = (ptS l h e).1 := by
  rw [fill_sum l hr (G := zeroF) (g := .zero) rfl, GT.zero_plus]
theorem fill_rev {l : List PutR} (hr : ∀ p, p ∈ l → p.tal.Rng) : fillG zeroF l.reverse = fillG zeroF l := by
  funext h e
  rw [fill0 hr, fill0 fun p hp => hr p (List.mem_reverse.1 hp)]
  unfold ptS
  rw [gsum_perm ((List.reverse_perm l).map _)]
theorem fill_merge {a b : List PutR} (ha : ∀ p, p ∈ a → p.tal.Rng) (hb : ∀ p, p ∈ b → p.tal.Rng) : mergeG (fillG zeroF a) (fillG zeroF b) = fillG zeroF (a ++ b) := by
  funext h e
  rw [fill0 fun p hp => (List.mem_append.1 hp).elim (ha p) (hb p)]
  show (fillG zeroF a h e).plus (fillG zeroF b h e) = _
  rw [fill0 ha, fill0 hb]
  unfold ptS
  rw [List.map_append, gsum_append]
  rfl
theorem fill_swap {a b : List PutR} (ha : ∀ p, p ∈ a → p.tal.Rng) (hb : ∀ p, p ∈ b → p.tal.Rng) : fillG zeroF (b ++ a) = fillG zeroF (a ++ b) := by
  funext h e
  rw [fill0 fun p hp => (List.mem_append.1 hp).elim (hb p) (ha p), fill0 fun p hp => (List.mem_append.1 hp).elim (ha p) (hb p)]
  unfold ptS
  rw [gsum_perm (List.perm_append_comm.map _)]
theorem fill_key {l : List PutR} (hr : ∀ p, p ∈ l → p.tal.Rng) {h : Int} {e : Edge} (hn : fillG zeroF l h e ≠ .zero) : (h, e) ∈ l.map rowK := by
  refine Classical.byContradiction fun hc => hn ?_
  rw [fill0 hr]
  have : ptS l h e = .zero := gsum_zero fun x hx => by
    obtain ⟨p, hp, rfl⟩ := List.mem_map.1 hx
    unfold ptG
    rw [dif_neg]
    rintro ⟨⟨rfl, rfl⟩, _⟩
    exact hc (List.mem_map.2 ⟨p, hp, rfl⟩)
  rw [this]; rfl

/-! ### Windows that are alike -/
theorem rise_ext : ∀ {A B : List Int}, A.Pairwise (· < ·) → B.Pairwise (· < ·) → (∀ a, a ∈ A ↔ a ∈ B) → A = B
  | [], [], _, _, _ => rfl
  | [], b :: B, _, _, h => by have := (h b).2 (List.mem_cons_self ..); simp at this
  | a :: A, [], _, _, h => by have := (h a).1 (List.mem_cons_self ..); simp at this
  | a :: A, b :: B, hA, hB, h => by
    have hA' := List.pairwise_cons.1 hA
    have hB' := List.pairwise_cons.1 hB
    have e : a = b := by
      rcases List.mem_cons.1 ((h a).1 (List.mem_cons_self ..)) with h1 | h1
      · exact h1
      · rcases List.mem_cons.1 ((h b).2 (List.mem_cons_self ..)) with h2 | h2
        · exact h2.symm
        · have := hB'.1 a h1
          have := hA'.1 b h2
          omega
    subst e
    rw [rise_ext hA'.2 hB'.2 fun x => ?_]
    have := h x
    simp only [List.mem_cons] at this
    constructor
    · intro hx
      rcases this.1 (.inr hx) with h1 | h1
      · have := hA'.1 x hx; omega
      · exact h1
    · intro hx
      rcases this.2 (.inr hx) with h1 | h1
      · have := hB'.1 x hx; omega
      · exact h1
theorem winK_same {s0 s s0' s' : St} {G : RollF} {hG hG' : RollG G} {x x' : AV} {W W' : List WinR} {w : Int} (h : WinS s0 s G hG x W) (h' : WinS s0' s' G hG' x' W') (hl : WinL G w W) (hl' : WinL G w W') : W.map winK = W'.map winK := by
  have he : W.map (·.at_) = W'.map (·.at_) := rise_ext hl.rise hl'.rise fun a => by rw [hl.mem, hl'.mem]
  have hlen : W.length = W'.length := by
    have := congrArg List.length he
    simpa using this
  refine List.ext_getElem (by simpa using hlen) fun i h1 h2 => ?_
  have g1 : i < W.length := by simpa using h1
  have g2 : i < W'.length := by simpa using h2
  rw [List.getElem_map, List.getElem_map]
  have e1 : W[i].at_ = W'[i].at_ := by
    have : (W.map (·.at_))[i]? = (W'.map (·.at_))[i]? := by rw [he]
    rw [List.getElem?_map, List.getElem?_map, List.getElem?_eq_getElem g1, List.getElem?_eq_getElem g2] at this
    simpa using this
  have e2 : W[i].width = W'[i].width := (hl.width _ (List.getElem_mem g1)).trans (hl'.width _ (List.getElem_mem g2)).symm
  have t1 := (h.each _ (List.getElem_mem g1)).2.2.2
  have t2 := (h'.each _ (List.getElem_mem g2)).2.2.2
  rw [← e1, ← e2] at t2
  simp only [winK, Prod.mk.injEq]
  exact ⟨e1, e2, t1.unique t2⟩
theorem WinS.d {s0 s : St} {G : RollF} {hG : RollG G} {x : AV} {W : List WinR} (h : WinS s0 s G hG x W) {E0 : List Edge} (hE : ∀ h e, G h e ≠ .zero → e ∈ E0) (hb : E0.length < 4611686018427387904) : WinD s x W := ⟨h.so.sl, fun w hw => by
  obtain ⟨h1, _, h3, h4⟩ := h.each w hw
  have hl := told_lenS h4 (sumH_ne (hG := hG) hE)
  rw [etP_len] at hl
  exact ⟨h1, fun y hy => (h3 y hy).1, by omega, told_bars h4⟩⟩
end
end Go.Eng.S

namespace Go.Eng.S
open Go Go.Eng Go.Proofs
set_option linter.constructorNameAsVariable false
set_option maxRecDepth 4000
noncomputable section
attribute [local irreducible] bsel barsOf mergeB

theorem RollO.by {s0 s s' : St} {r : Nat} {fan : Int} {G : RollF} {fp M : List Nat} (h : RollO s0 s r fan G fp) (f : Frw M s s') (hM : ∀ c, c ∈ M → c ∉ fp) : RollO s0 s' r fan G fp :=
  ⟨h.roll.fwd f hM, h.new, fun c hc => f.gone (h.there c hc) fun hm => hM c hm hc⟩
theorem sz_mul {n N b : Nat} (h : n ≤ N) (hb : (N + 1 + (N + 1) / 4 + 600) * b ≤ pow48) : (n + 1 + (n + 1) / 4 + 600) * b ≤ pow48 := Nat.le_trans (Nat.mul_le_mul_right b (by omega)) hb

set_option maxHeartbeats 2000000 in
theorem RollupOrder_ok {s : St} {fan a2 : Int} {l : List PutR} {x : AV} (hx : Sl putE s x l) (hA : ArgS x) (hp : ∀ p, p ∈ l → FineP s p) (hb : (l.length + 1 + (l.length + 1) / 4 + 600) * 112 ≤ pow48) :
    CallsA P F.spoorlaw15_RollupOrder [.int .i64 fan, x, .int .i64 a2] s fun v _ => v = .bool true := by
  have hbig : l.length < 4611686018427387904 := by unfold pow48 at hb; omega
  have hrng : ∀ p, p ∈ l → p.tal.Rng := fun p h => (hp p h).rng
  have hb104 : (l.length + 1 + (l.length + 1) / 4 + 600) * 104 ≤ pow48 := Nat.le_trans (Nat.mul_le_mul_left _ (by omega)) hb
  have hb1 : l.length + 1 ≤ pow48 := by unfold pow48 at hb ⊢; omega
  refine vc.spoorlaw15_RollupOrder_ok ((alive_ok s).mono ?_)
  rintro _ s2 ⟨rfl, rfl⟩
  refine ⟨true, rfl, (filled_ok (fan := fan) hx hp (by omega)).a.mono ?_⟩
  rintro v s5 ⟨⟨hv, f5⟩, hfr5⟩
  refine ⟨v, rfl, ?_⟩
  by_cases hfan : 2 ≤ fan ∧ fan ≤ 16
  · rw [if_pos hfan] at hv
    obtain ⟨r, fp, rfl, hR1⟩ := hv
    refine bsel_of (fun c => by simp at c) fun _ => nilK_ptr (bsel_of (fun c => by simp at c) fun _ => hx.slen ?_)
    refine ⟨fun x11 n12 s13 m => ∃ k : Nat, n12 = (k : Int) - 1 ∧ m = k ∧ k ≤ l.length ∧ So putE s13 x11 (l.drop k).reverse ∧ (∀ c, c ∈ blkOf x11 → s5.h.get c = none) ∧ Frw [] s5 s13 ∧ Fr s13, ⟨_, l.length, by rw [wrap_i64 (by omega) (by omega)], rfl, Nat.le_refl _, by rw [List.drop_length]; exact .nil _ _, by simp [blkOf], .refl _ _, hfr5⟩, ?_⟩
    rintro x11 _ s13 m14 ⟨k, rfl, hm14, hk, hso, hnew, f13, hfr13⟩
    refine bsel_of (fun c => ?_) fun c => ?_
    · have c : 1 ≤ k := by simp at c; omega
      obtain ⟨i, rfl⟩ : ∃ i, k = i + 1 := ⟨k - 1, by omega⟩
      rw [show ((i + 1 : Nat) : Int) - 1 = (i : Int) by omega]
      have hi : i < l.length := by omega
      have f013 := f5.trans f13
      have hpi := (hp _ (List.getElem_mem hi)).ext f013
      refine (hx.ext f013).ixs rfl rfl hi fun b1 o1 hR => ⟨_, _, _, _, _, _, _, _, _, l[i].bars, hR.all rfl, fun m27 s28 hN => ?_⟩
      have hone : ones (putF l[i]) = true := by have := hpi.bar.onesx []; simpa [putF, ones] using this
      have hlen : (l.drop (i + 1)).reverse.length ≤ l.length := by simp
      obtain ⟨x29, s30, q1, q2, q3, q4, q5, q6⟩ := So.append' (a := l[i]) (hso.ext hN.fwd) ty.sl_spoorlaw15_Put rfl ty.spoorlaw15_Put rfl rfl rfl hone hN.own.rd rfl (sz_mul hlen hb) (by omega) hN.fr
      refine ⟨x29, s30, q1, i, by omega, i, by rw [wrap_i64 (by omega) (by omega)], rfl, by omega, ?_, fun d hd => ?_, (f13.trans hN.fwd).step q3 hnew, q5⟩
      · rw [List.drop_eq_getElem_cons hi, List.reverse_cons]; exact q2
      · rw [q4] at hd
        have : d = s28.nx := by simpa using hd
        rw [this]
        exact (f13.trans hN.fwd).none (hN.fr _ (Nat.le_refl _)) (by simp)
    have c : k = 0 := by simp at c; omega
    subst c
    rw [List.drop_zero] at hso
    refine ⟨fun n s40 _ => ∃ k : Nat, n = k ∧ k ≤ l.length ∧ s40 = s13, ?_, ?_⟩
    · have half : IntKind.wrap .i64 (Int.tdiv ((l.length : Nat) : Int) 2) = ((l.length / 2 : Nat) : Int) := wr_half (a := l.length) (b := 2) (by omega) (by omega)
      refine bsel_of (fun _ => hx.slen ⟨by decide, 0, l.length / 2, half, by omega, rfl⟩) fun c1 => hx.slen (bsel_of (fun _ => hx.slen ⟨by decide, 0, l.length / 2, half, by omega, rfl⟩) fun c2 => ?_)
      simp only [decide_eq_false_iff_not] at c1 c2
      exact ⟨0, a2.toNat, by omega, by omega, rfl⟩
    rintro _ _ _ ⟨k, rfl, hk, rfl⟩
    rename_i s13 _ _
    -- the other way round
    have f13' := f5.trans f13
    refine (filled_ok (fan := fan) hso.sl (fun p h => (hp p (List.mem_reverse.1 h)).ext f13') (by rw [List.length_reverse]; omega)).a.mono ?_
    rintro v s34 ⟨⟨hv, f34⟩, hfr34⟩
    rw [if_pos hfan] at hv
    obtain ⟨r2, fp2, rfl, hR2⟩ := hv
    have f34' := f13'.trans f34
    -- two parts
    obtain ⟨y1, e1, hy1⟩ := (hx.ext f34').takeA hA hk
    refine ⟨_, rfl, optK_mk e1 ((filled_ok (fan := fan) hy1 (fun p h => (hp p (List.mem_of_mem_take h)).ext f34') (by rw [List.length_take]; omega)).a.mono ?_)⟩
    rintro v s38 ⟨⟨hv, f38⟩, hfr38⟩
    rw [if_pos hfan] at hv
    obtain ⟨r3, fp3, rfl, hR3⟩ := hv
    have f38' := f34'.trans f38
    obtain ⟨y2, e2, hy2⟩ := (hx.ext f38').dropA hA hk
    refine ⟨_, rfl, optK_mk e2 ((filled_ok (fan := fan) hy2 (fun p h => (hp p (List.mem_of_mem_drop h)).ext f38') (by rw [List.length_drop]; omega)).a.mono ?_)⟩
    rintro v s42 ⟨⟨hv, f42⟩, hfr42⟩
    rw [if_pos hfan] at hv
    obtain ⟨r4, fp4, rfl, hR4⟩ := hv
    have f42' := f38'.trans f42
    refine ⟨_, rfl, optK_mk e2 ((filled_ok (fan := fan) (hy2.ext f42) (fun p h => (hp p (List.mem_of_mem_drop h)).ext f42') (by rw [List.length_drop]; omega)).a.mono ?_)⟩
    rintro v s46 ⟨⟨hv, f46⟩, hfr46⟩
    rw [if_pos hfan] at hv
    obtain ⟨r5, fp5, rfl, hR5⟩ := hv
    refine ⟨_, rfl, nilK_ptr (bsel_of (fun c => by simp at c) fun _ => nilK_ptr (bsel_of (fun c => by simp at c) fun _ => nilK_ptr (bsel_of (fun c => by simp at c) fun _ => nilK_ptr (bsel_of (fun c => by simp at c) fun _ => ?_))))⟩
    -- what is new is apart from what was there
    have ap : ∀ {sa sb : St} {fpa fpb : List Nat}, (∀ c, c ∈ fpa → sa.h.get c ≠ none) → (∀ c, c ∈ fpb → sb.h.get c = none) → Frw [] sa sb → ∀ c, c ∈ fpb → c ∉ fpa := fun h1 h2 f c hc hc' => h1 c hc' (f.none (h2 c hc) (by simp))
    have d43 : ∀ c, c ∈ fp4 → c ∉ fp3 := ap hR3.there hR4.new (.refl _ _)
    have d54 : ∀ c, c ∈ fp5 → c ∉ fp4 := ap hR4.there hR5.new (.refl _ _)
    have d53 : ∀ c, c ∈ fp5 → c ∉ fp3 := ap hR3.there hR5.new f42
    have d41 : ∀ c, c ∈ fp4 → c ∉ fp := ap hR1.there hR4.new ((f13.trans f34).trans f38)
    have d31 : ∀ c, c ∈ fp3 → c ∉ fp := ap hR1.there hR3.new (f13.trans f34)
    have d42 : ∀ c, c ∈ fp4 → c ∉ fp2 := ap hR2.there hR4.new f38
    have d32 : ∀ c, c ∈ fp3 → c ∉ fp2 := ap hR2.there hR3.new (.refl _ _)
    have hrt : ∀ p, p ∈ l.take k → p.tal.Rng := fun p h => hrng p (List.mem_of_mem_take h)
    have hrd : ∀ p, p ∈ l.drop k → p.tal.Rng := fun p h => hrng p (List.mem_of_mem_drop h)
    have hK3 : ∀ h e, fillG zeroF (l.take k) h e ≠ .zero → (h, e) ∈ (l.take k).map rowK := fun h e => fill_key hrt
    have hK5 : ∀ h e, fillG zeroF (l.drop k) h e ≠ .zero → (h, e) ∈ (l.drop k).map rowK := fun h e => fill_key hrd
    have hR3_46 := (hR3.ext f42).ext f46
    have hR4_46 := hR4.ext f46
    have hR1_46 := (((hR1.ext f13).ext f34).ext f38 |>.ext f42).ext f46
    have hR2_46 := ((hR2.ext f38).ext f42).ext f46
    refine (MergeR_ok hR4_46 (f42.trans f46) hR3_46.roll d43 hK3 (sz_mul (by rw [List.length_map, List.length_take]; omega) hb)).mono ?_
    rintro _ s53 ⟨⟨rfl, fp4', hM4, hs4⟩, g4, f53, hfr53⟩
    have d4'3 : ∀ c, c ∈ fp3 → c ∉ fp4' := fun c hc hc' => by
      rcases hs4 c hc' with h1 | h1
      · exact d43 c h1 hc
      · exact hR3_46.there c hc h1
    have hR3_53 := hR3_46.by g4 d43
    have hR5_53 := hR5.by g4 fun c hc hc' => d54 c hc' hc
    refine ⟨0, rfl, (MergeR_ok hR3_53 ((f38.trans f42).trans f46 |> fun f => ⟨fun c o hc ho => g4.1 c o (fun h4 => by
      have := f38.none (hR4.new c h4) (by simp)
      rw [this] at ho; simp at ho) (f.1 c o hc ho), Nat.le_trans f.2.1 g4.2.1, g4.2.2.trans f.2.2⟩) hR5_53.roll (fun c h3 h5 => d53 c h5 h3) hK5 (sz_mul (by rw [List.length_map, List.length_drop]; omega) hb)).mono ?_⟩
    rintro _ s56 ⟨⟨rfl, fp3', hM3, hs3⟩, g3, f56, hfr56⟩
    have hR1_56 := (hR1_46.by g4 d41).by g3 d31
    have hR2_56 := (hR2_46.by g4 d42).by g3 d32
    have hM4_56 := hM4.by g3 d4'3
    have eM3 : mergeG (fillG zeroF (l.take k)) (fillG zeroF (l.drop k)) = fillG zeroF l := by rw [fill_merge hrt hrd, List.take_append_drop]
    have eM4 : mergeG (fillG zeroF (l.drop k)) (fillG zeroF (l.take k)) = fillG zeroF l := by rw [fill_merge hrd hrt, fill_swap hrt hrd, List.take_append_drop]
    rw [eM3] at hM3
    rw [eM4] at hM4_56
    rw [fill_rev hrng] at hR2_56
    have hE : ∀ h e, fillG zeroF l h e ≠ .zero → e ∈ l.map (·.edge) := fun h e hn => by
      rcases fillG_ne hn with h1 | h1
      · exact absurd rfl h1
      · exact h1
    have hbE : ((l.map (·.edge)).length + 1 + ((l.map (·.edge)).length + 1) / 4 + 600) * 104 ≤ pow48 := by rw [List.length_map]; exact hb104
    have hEl : (l.map (·.edge)).length < 4611686018427387904 := by rw [List.length_map]; exact hbig
    generalize l.map (·.edge) = E0 at hE hbE hEl
    generalize fillG zeroF l = G0 at hR1_56 hR2_56 hM3 hM4_56 hE
    refine ⟨0, rfl, (Windows_ok hR1_56.roll hfan (lev := 0) (by omega) hE hbE).mono ?_⟩
    rintro _ s59 ⟨⟨xa, Wa, rfl, ha1, ha2⟩, g59, hfr59⟩
    refine ⟨xa, 0, rfl, (Windows_ok (hR2_56.ext g59).roll hfan (lev := 0) (by omega) hE hbE).mono ?_⟩
    rintro _ s63 ⟨⟨xb, Wb, rfl, hb1', hb2⟩, g63, hfr63⟩
    refine ⟨xb, 0, rfl, (Windows_ok ((hM3.ext g59).ext g63).roll hfan (lev := 0) (by omega) hE hbE).mono ?_⟩
    rintro _ s67 ⟨⟨xc, Wc, rfl, hc1, hc2⟩, g67, hfr67⟩
    refine ⟨xc, 0, rfl, (Windows_ok (((hM4_56.ext g59).ext g63).ext g67).roll hfan (lev := 0) (by omega) hE hbE).mono ?_⟩
    rintro _ s71 ⟨⟨xd, Wd, rfl, hd1, hd2⟩, g71, hfr71⟩
    refine ⟨xd, 0, rfl, bsel_of (fun _ => bsel_of (fun _ => ?_) fun c => by simp at c) fun c => by simp at c⟩
    have da := (((ha1.d hE hEl).ext g63).ext g67).ext g71
    have db := ((hb1'.d hE hEl).ext g67).ext g71
    have dc := (hc1.d hE hEl).ext g71
    have dd := hd1.d hE hEl
    have hWa : Wa.length < 4611686018427387904 := by
      have hnd : (Wa.map (·.at_)).Nodup := List.Pairwise.imp (fun h => Int.ne_of_lt h) ha2.rise
      have := nodup_length_le hnd (b := hrs 0 2097152) fun a hm => by
        obtain ⟨q, ⟨e, q1⟩, q2⟩ := (ha2.mem a).1 hm
        have q3 := hR1_56.roll.good.hour q e q1
        have q4 := tmod_rng (h := q) (w := 1) q3.1 (by omega)
        exact mem_hrs.2 (by omega)
      rw [hrs_len, List.length_map] at this
      omega
    refine (SameWindows_ok da db (winK_same ha1 hb1' ha2 hb2) hWa).a.mono ?_
    rintro _ s75 ⟨⟨rfl, g75⟩, hfr75⟩
    refine ⟨true, rfl, bsel_of (fun _ => ?_) fun c => by simp at c⟩
    refine (SameWindows_ok (da.ext g75) (dc.ext g75) (winK_same ha1 hc1 ha2 hc2) hWa).a.mono ?_
    rintro _ s78 ⟨⟨rfl, g78⟩, hfr78⟩
    refine ⟨true, rfl, bsel_of (fun _ => ?_) fun c => by simp at c⟩
    refine (SameWindows_ok ((da.ext g75).ext g78) ((dd.ext g75).ext g78) (winK_same ha1 hd1 ha2 hd2) hWa).a.mono ?_
    rintro _ s81 ⟨⟨rfl, g81⟩, hfr81⟩
    exact ⟨true, rfl, rfl⟩
  · rw [if_neg hfan] at hv
    subst hv
    refine bsel_of (fun c => by simp at c) fun _ => nilK_nilptr (bsel_of (fun _ => bsel_of (fun _ => bsel_of (fun _ => rfl) fun c1 => ?_) fun c => by simp at c) fun c => by simp at c)
    simp only [decide_eq_false_iff_not] at c1
    have : fan > 16 := by omega
    simp [this]
end
end Go.Eng.S

namespace Go.Eng.S
open Go Go.Eng Go.Proofs
noncomputable section
variable {H : Type} {enc : TypeId × Value → H} {w : World} {base : Nat} {held : Bool} {fuel : Nat}
theorem RollupOrder_walk {fan b : Int} {v : Value} {x : DataW H × List MemPlace} (h : DataW.trod enc P w base (fun _ => true) held fuel T.sl_spoorlaw15_Put [v] = some x) (hs : slcLen x.1 * 112 ≤ 140737488351232) :
    Calls P F.spoorlaw15_RollupOrder #[.int .i64 fan, v, .int .i64 b] w fun e w' => e = .returned (.bool true) ∧ Kept w w' := by
  obtain ⟨y, l, h1, h2, h3, h4, _⟩ := puts_read h
  exact CallsA.top (RollupOrder_ok h2 (absV_arg h1 h2.len) h3 (by unfold pow48; omega)) (.cons (.int _ _) (.cons (absV_ok h1) (.cons (.int _ _) .nil)))
end
end Go.Eng.S

