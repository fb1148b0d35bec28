/-
  'RollupCalls': the walk.
  'RollupCalls': calls as a row hands them in.
-/
import Derived.Test.YteidlkjofcbcmaaSRotoSRp
import Derived.Test.YteidlkjofcbcmaaSKr
import Derived.Test.YteidlkjofcbcmaaW13to14
namespace Go.Eng.S
open Go Go.Eng Go.Proofs
set_option linter.constructorNameAsVariable false
set_option maxRecDepth 4000
noncomputable section
attribute [local irreducible] bsel barsOf mergeB

/-- The calls that have been put so far. -/
structure PutI (s : St) (l : List CallR) (r : Nat) (fan : Int) (x : AV) (s' : St) (i : Nat) (K : List CallR) (G : RollF) (fp : List Nat) : Prop where
  so : So callE s' x K
  new : ∀ c, c ∈ blkOf x → s.h.get c = none
  roll : Roll s' r fan G fp
  fnew : ∀ c, c ∈ fp → s.h.get c = none
  there : ∀ c, c ∈ fp → s'.h.get c ≠ none
  sep : ∀ c, c ∈ blkOf x → c ∉ fp
  holds : Holds G K
  rng : ∀ c, c ∈ K → c.Rng
  len : K.length ≤ i

theorem RollupCalls_ok {s : St} {fan a b : Int} {l : List CallR} {x : AV} (hx : Sl callE s x l) (hr : ∀ c, c ∈ l → c.Rng) (hlen : (l.length + 2 + (l.length + 2) / 4 + 600) * 104 ≤ pow48) :
    CallsA P F.spoorlaw15_RollupCalls [.int .i64 fan, x, .int .i64 a, .int .i64 b] s fun v _ => v = .bool true := by
  have hbig : l.length < 4611686018427387904 := by unfold pow48 at hlen; omega
  refine vc.spoorlaw15_RollupCalls_ok ((alive_ok s).mono ?_)
  rintro _ s2 ⟨rfl, rfl⟩
  refine ⟨true, rfl, (New_ok (s := s2) (fan := fan)).a.mono ?_⟩
  rintro v s5 ⟨⟨hv, f5⟩, hfr5⟩
  split at hv
  · obtain ⟨r, fp0, rfl, hR0, hnew0⟩ := hv
    refine ⟨.ptr r 0, 0, rfl, bsel_of (fun c => by simp at c) fun _ => bsel_of (fun c => by simp at c) fun _ => nilK_ptr (bsel_of (fun c => by simp at c) fun _ => ?_)⟩
    obtain ⟨fp1, hR1, hsub1, hth1⟩ := hR0.trim
    refine ⟨fun x14 n15 s16 m => ∃ (i : Nat) (K : List CallR) (G : RollF) (fp : List Nat), n15 = i ∧ m = l.length - i ∧ i ≤ l.length ∧ PutI s2 l r fan x14 s16 i K G fp ∧ Frw [] s2 s16 ∧ Fr s16, ⟨_, 0, [], zeroF, fp1, rfl, rfl, by omega, ⟨.nil _ _, by simp [blkOf], hR1, fun c hc => hnew0 c (hsub1 c hc), hth1, by simp [blkOf], fun _ _ => rfl, by simp, by simp⟩, f5, hfr5⟩, ?_⟩
    rintro x14 _ s16 _ ⟨i, K, G, fp, rfl, rfl, hi, hI, f16, hfr16⟩
    refine (hx.ext f16).slen (bsel_of (fun c => ?_) fun c => ?_)
    · -- a call
      have c : i < l.length := by simpa using c
      have hrc := hr l[i] (List.getElem_mem c)
      intro s19 hB
      have f19 := f16.trans hB.fwd
      have hx19 := hx.ext f19
      refine hx19.ixs rfl rfl c fun b1 o1 hR1 => ⟨_, hR1.ld1 0 rfl, hx19.ixs rfl rfl c fun b2 o2 hR2 => ⟨_, _, hR2.ldN 1 2 (by simp [callE, callF]), hx19.ixs rfl rfl c fun b3 o3 hR3 => ⟨_, _, _, _, _, hR3.all rfl, ?_⟩⟩⟩
      refine (One_ok hrc).mono ?_
      rintro _ s35 ⟨⟨⟨z, rfl, hz, hg⟩, f35⟩, hfr35⟩
      refine ⟨_, _, _, _, _, _, z, rfl, (hR2.fwd f35 (by simp)).ldN 1 2 (by simp [callE, callF]), hx19.noSym ⟨(hR1.fwd f35 (by simp)).ld1 0 rfl, hx19.noSym ?_⟩⟩
      have hfB := hB.fwd.trans f35
      have hroll := hI.roll.ext hfB
      refine (Put_ok (hh := l[i].hour) (e := l[i].edge) hroll hz (oneT_rng hrc)).mono ?_
      rintro v s44 ⟨⟨⟨rfl, fp', q1, q2, q3⟩, g44⟩, hfr44⟩
      have f35' : Frw [] s2 s35 := f19.trans f35
      have f44 : Frw [] s2 s44 := f35'.step g44 hI.fnew
      have hx44 := hx.ext f44
      have hfnew : ∀ c, c ∈ fp' → s2.h.get c = none := fun c hc => by
        rcases q3 c hc with h | h
        · exact hI.fnew c h
        · exact f35'.none h (by simp)
      obtain ⟨fp2, hR2', hsub2, hth2⟩ := q1.trim
      have hx14 := So.beside (hI.so.ext hfB) g44 fun c hc hcx => hI.sep c hcx hc
      have hsep2 : ∀ c, c ∈ blkOf x14 → c ∉ fp2 := fun c hc hcf => by
        rcases q3 c (hsub2 c hcf) with h | h
        · exact hI.sep c hc h
        · exact So.there (hI.so.ext hfB) c hc h
      have wi := wrap_succ (k := i) (by omega)
      have hok := oneT_ok hrc
      refine ⟨_, rfl, bsel_of (fun c1 => ?_) fun c1 => ?_⟩
      · -- it has been put
        have hin : 0 ≤ l[i].hour ∧ l[i].hour < 2097152 := by
          refine Classical.byContradiction fun hn => ?_
          unfold putR at c1
          rw [if_neg hn] at c1
          simp at c1
        have e : (putR G l[i].hour l[i].edge (oneT l[i])).1 = setF G l[i].hour l[i].edge ((G l[i].hour l[i].edge).plus (oneT l[i])) := by
          unfold putR; rw [if_pos hin, if_pos hok]
        rw [e] at hR2'
        refine hx44.ixs rfl rfl c fun b4 o4 hR4 => ⟨_, _, _, _, _, hR4.all rfl, ?_⟩
        intro m53 s54 h54
        have hl := hI.len
        have hb1 : (K.length + 1 + (K.length + 1) / 4 + 600) * 56 ≤ pow48 := sz_le (n := l.length) (by omega) (by omega) hlen
        have hb2 : K.length + 1 ≤ pow48 := sz_le' (n := l.length) (by omega) hlen
        obtain ⟨x55, s56, p1, p2, p3, p4, p5, p6⟩ := So.append' (a := l[i]) (hx14.ext h54.fwd) ty.sl_api_Call rfl ty.api_Call rfl rfl rfl rfl h54.own.rd rfl hb1 hb2 h54.fr
        refine ⟨x55, s56, p1, l.length - (i + 1), by omega, i + 1, K ++ [l[i]], _, fp2, wi, rfl, by omega, ⟨p2, fun c hc => ?_, (hR2'.ext h54.fwd).fwd p3 hsep2, fun c hc => hfnew c (hsub2 c hc), fun c hc => p3.gone (h54.fwd.gone (hth2 c hc) (by simp)) fun hcx => hsep2 c hcx hc, fun c hc hcf => ?_, hI.holds.put hrc, fun c hc => ?_, ?_⟩, (f44.trans h54.fwd).step p3 hI.new, p5⟩
        · rw [p4] at hc
          have : c = s54.nx := by simpa using hc
          rw [this]
          exact (f44.trans h54.fwd).none (h54.fr _ (Nat.le_refl _)) (by simp)
        · rw [p4] at hc
          have : c = s54.nx := by simpa using hc
          exact Fr.ne h54.fr (h54.fwd.gone (hth2 c hcf) (by simp)) this
        · rcases List.mem_append.1 hc with hc | hc
          · exact hI.rng c hc
          · have : c = l[i] := by simpa using hc
            rw [this]; exact hrc
        · rw [List.length_append, List.length_singleton]; omega
      · -- it has not
        have hno : ¬ (0 ≤ l[i].hour ∧ l[i].hour < 2097152) := by
          intro hin
          unfold putR at c1
          rw [if_pos hin, if_pos hok] at c1
          simp at c1
        have e : (putR G l[i].hour l[i].edge (oneT l[i])).1 = G := by
          unfold putR; rw [if_neg hno]
        rw [e] at hR2'
        have next : ∃ m, m < l.length - i ∧ ∃ (i' : Nat) (K : List CallR) (G : RollF) (fp : List Nat), IntKind.wrap .i64 ((i : Int) + 1) = (i' : Int) ∧ m = l.length - i' ∧ i' ≤ l.length ∧ PutI s2 l r fan x14 s44 i' K G fp ∧ Frw [] s2 s44 ∧ Fr s44 :=
          ⟨l.length - (i + 1), by omega, i + 1, K, G, fp2, wi, rfl, by omega, ⟨hx14, hI.new, hR2', fun c hc => hfnew c (hsub2 c hc), hth2, hsep2, hI.holds, hI.rng, by have := hI.len; omega⟩, f44, hfr44⟩
        refine hx44.ixs rfl rfl c fun b4 o4 hR4 => ⟨_, hR4.ld1 0 rfl, bsel_of (fun c2 => ?_) fun _ => next⟩
        refine hx44.ixs rfl rfl c fun b5 o5 hR5 => ⟨_, hR5.ld1 0 rfl, bsel_of (fun c3 => ?_) fun _ => next⟩
        simp only [decide_eq_true_eq] at c2 c3
        exact absurd ⟨c2, by omega⟩ hno
    · -- the range
      have hG := hI.roll.good
      have hKl := hI.len
      refine (Range_ok hI.roll (a := a) (b := b) (E0 := K.map (·.edge)) hI.holds.mem (sz_le (n := l.length) (by rw [List.length_map]; omega) (by omega) hlen)).mono ?_
      rintro v s67 ⟨hv, f67, hfr67⟩
      split at hv
      · obtain ⟨x68, L, rfl, hL, htold⟩ := hv
        refine ⟨x68, 0, rfl, bsel_of (fun c => by simp at c) fun _ => ?_⟩
        have hcalls := hI.so.ext f67
        have hlenK : (K.length + 2 + (K.length + 2) / 4 + 600) * 104 ≤ pow48 := sz_le (n := l.length) (by omega) (by omega) hlen
        refine ⟨fun x73 n74 s75 m => ∃ (j : Nat) (XS : List (AV × List ET)), n74 = j ∧ m = K.length - j ∧ j ≤ K.length ∧ ListsI s67 a b K x73 s75 j XS ∧ Frw [] s67 s75 ∧ Fr s75, ⟨_, 0, [], rfl, rfl, by omega, ⟨.nil _ _, by simp [blkOf], by simp, rfl, by simp, by simp⟩, .refl _ _, hfr67⟩, ?_⟩
        rintro x73 _ s75 _ ⟨j, XS, rfl, rfl, hj, hL75, f75, hfr75⟩
        have hc75 := (hcalls.ext f75).sl
        refine hc75.slen (bsel_of (fun c2 => ?_) fun c2 => ?_)
        · have c2 : j < K.length := by simpa using c2
          have wj := wrap_succ (k := j) (by omega)
          have hrc := hI.rng K[j] (List.getElem_mem c2)
          have skip : ¬ (a ≤ K[j].hour ∧ K[j].hour < b) → ∃ m, m < K.length - j ∧ ∃ (j' : Nat) (XS : List (AV × List ET)), IntKind.wrap .i64 ((j : Int) + 1) = (j' : Int) ∧ m = K.length - j' ∧ j' ≤ K.length ∧ ListsI s67 a b K x73 s75 j' XS ∧ Frw [] s67 s75 ∧ Fr s75 :=
            fun hn => ⟨K.length - (j + 1), by omega, j + 1, XS, wj, rfl, by omega, hL75.skip c2 hn, f75, hfr75⟩
          refine hc75.ixs rfl rfl c2 fun b1 o1 hR1 => ⟨_, hR1.ld1 0 rfl, bsel_of (fun c3 => ?_) fun c3 => skip fun h => by simp only [decide_eq_false_iff_not] at c3; omega⟩
          refine hc75.ixs rfl rfl c2 fun b2 o2 hR2 => ⟨_, hR2.ld1 0 rfl, bsel_of (fun c4 => ?_) fun c4 => skip fun h => by simp only [decide_eq_false_iff_not] at c4; omega⟩
          simp only [decide_eq_true_eq] at c3 c4
          intro s84 hB
          have hc84 := hc75.ext hB.fwd
          refine hc84.ixs rfl rfl c2 fun b3 o3 hR3 => ⟨_, _, hR3.ldN 1 2 (by simp [callE, callF]), hc84.ixs rfl rfl c2 fun b4 o4 hR4 => ⟨_, _, _, _, _, hR4.all rfl, ?_⟩⟩
          refine (One_ok hrc).gro.mono ?_
          rintro _ s97 ⟨⟨⟨⟨z, rfl, hz, hg⟩, f97⟩, hfr97⟩, hGr⟩
          refine ⟨_, _, _, _, _, _, z, rfl, (hR3.fwd f97 (by simp)).ldN 1 2 (by simp [callE, callF]), hc84.noSym ?_⟩
          obtain ⟨x', s', p1, p2, p3, p4⟩ := hL75.next f75 hfr75 hB c2 ⟨by omega, by omega⟩ hrc hlenK hz hg f97 hGr
          exact ⟨x', s', p1, K.length - (j + 1), by omega, j + 1, _, wj, rfl, by omega, p2, p3, p4⟩
        · have c2 : j = K.length := by simp at c2; omega
          subst c2
          have hl2 := hL75.len2
          have hl1 := hL75.len
          refine (Sum_ok hL75.so.sl (fun p hp => ⟨(hL75.each p hp).2.1, fun y hy => ((hL75.each p hp).2.2 y hy).1⟩) (sz_le (n := l.length) (by omega) (by omega) hlen) (by omega)).a.mono ?_
          rintro v s111 ⟨⟨⟨L2, h1, h2⟩, f111⟩, hfr111⟩
          refine ⟨v, rfl, ?_⟩
          have hL' := hL.ext (f75.trans f111)
          have hsum := hI.holds.sum hG a b
          rw [hL75.told, List.take_length, ← hsum] at h2
          have he : etP L2 = etP L := h2.unique htold
          have hgood : ∀ y, y ∈ L2 → y.2.1.l.length < 4611686018427387904 := by
            intro y hy
            have := (h2.at (p := (y.1, y.2.1)) (List.mem_map.2 ⟨y, hy, rfl⟩)).1
            simp only at this
            have ho := (sumH G hG a b y.1).2.1
            rw [← this] at ho
            have := okB_len' ho
            omega
          have hL2len : L2.length < 4611686018427387904 := by
            rw [hsum] at h2
            have := told_len h2
            rw [etP_len] at this
            have e2 := congrArg List.length hL75.told
            rw [etP_len, List.take_length] at e2
            omega
          refine (SameEdges_ok h1.so.sl hL'.so.sl (fun y hy => (h1.bars y hy).1) (fun y hy => (hL'.bars y hy).1) he hL2len hgood).a.mono ?_
          rintro _ s114 ⟨⟨rfl, _⟩, _⟩
          exact ⟨true, rfl, rfl⟩
      · subst hv
        exact ⟨.nilslice, 151, rfl, bsel_of (fun _ => (Sl.nil lsE s67).slen rfl) fun c => by simp at c⟩
  · subst hv
    exact ⟨.nilptr, 1, rfl, bsel_of (fun c => by simp at c) fun _ => bsel_of (fun _ => bsel_of (fun _ => nilK_nilptr rfl) fun c => by simp at c) fun c => by simp at c⟩
end
end Go.Eng.S

namespace Go.Eng.S
open Go Go.Eng Go.Proofs
set_option linter.constructorNameAsVariable false
noncomputable section
instance : Inhabited CallR := ⟨⟨0, (ByteArray.empty, ByteArray.empty), false, 0⟩⟩

/-- A list of one. -/
theorem drop1 {α : Type} {l : List α} {k : Nat} {v : α} (h : (l.drop k).take 1 = [v]) : l[k]? = some v := by
  have := congrArg (fun x => x[0]?) h
  simpa using this

set_option maxRecDepth 100000 in
theorem calls_read {H : Type} {enc : TypeId × Value → H} {w : World} {base : Nat} {held : Bool} {fuel : Nat} {v : Value} {x : DataW H × List MemPlace} (h : DataW.trod enc P w base (fun _ => true) held fuel T.sl_api_Call [v] = some x) :
    ∃ (a : AV) (l : List CallR), absV w.heap.size v = some a ∧ Sl callE (stW w) a l ∧ (∀ c, c ∈ l → c.Rng) ∧ l.length ≤ slcLen x.1 := by
  obtain ⟨a, l, h1, h2, h3, _, h5⟩ := slice_read2 callE CallR.Rng h Try.underlying55 (by kernel_rfl) fun n cs y hy hl => by
    have hl : cs.length = 5 := hl
    obtain ⟨xs, n, _, _, _, hx, hf⟩ := DataW.trod_struct Try.underlying59 hy
    change xs.length = 4 at hx
    have hf' := fun i f (hf0 : _) => hf i f hf0
    have g0 := hf' 0 _ rfl
    have g1 := hf' 1 _ rfl
    have g2 := hf' 2 _ rfl
    have g3 := hf' 3 _ rfl
    rw [List.getElem?_eq_getElem (by omega)] at g0 g1 g2 g3
    change DataW.trod enc P w base (fun _ => true) held n T.int64 (List.take (P.cellsOf T.int64) (List.drop 0 cs)) = _ at g0
    change DataW.trod enc P w base (fun _ => true) held n T.api_Edge (List.take (P.cellsOf T.api_Edge) (List.drop 1 cs)) = _ at g1
    change DataW.trod enc P w base (fun _ => true) held n T.ybool_4 (List.take (P.cellsOf T.ybool_4) (List.drop 3 cs)) = _ at g2
    change DataW.trod enc P w base (fun _ => true) held n T.uint64 (List.take (P.cellsOf T.uint64) (List.drop 4 cs)) = _ at g3
    obtain ⟨hr, e0, _, w0⟩ := DataW.trod_int Try.underlying2 g0
    obtain ⟨xs1, n1, _, _, hl1, hx1, hf1⟩ := DataW.trod_struct Try.underlying45 g1
    obtain ⟨bd, e2, _⟩ := DataW.trod_bool Try.underlying4 g2
    obtain ⟨sf, e3, _, w3⟩ := DataW.trod_int Try.underlying46 g3
    rw [show P.cellsOf T.int64 = 1 by kernel_rfl] at e0
    rw [show P.cellsOf T.ybool_4 = 1 by kernel_rfl] at e2
    rw [show P.cellsOf T.uint64 = 1 by kernel_rfl] at e3
    change xs1.length = 2 at hx1
    have k0 := hf1 0 _ rfl
    have k1 := hf1 1 _ rfl
    rw [List.getElem?_eq_getElem (by omega)] at k0 k1
    rw [show P.cellsOf T.api_Edge = 2 by kernel_rfl] at k0 k1
    change DataW.trod enc P w base (fun _ => true) held n1 T.ystring_9 (List.take (P.cellsOf T.ystring_9) (List.drop 0 (List.take 2 (List.drop 1 cs)))) = _ at k0
    change DataW.trod enc P w base (fun _ => true) held n1 T.ystring_9 (List.take (P.cellsOf T.ystring_9) (List.drop 1 (List.take 2 (List.drop 1 cs)))) = _ at k1
    obtain ⟨s0, e4, _, _⟩ := DataW.trod_string Try.underlying9 k0
    obtain ⟨s1, e5, _, _⟩ := DataW.trod_string Try.underlying9 k1
    rw [show P.cellsOf T.ystring_9 = 1 by kernel_rfl] at e4 e5
    obtain ⟨v0, v1, v2, v3, v4, rfl⟩ : ∃ v0 v1 v2 v3 v4, cs = [v0, v1, v2, v3, v4] := by
      match cs, hl with
      | [v0, v1, v2, v3, v4], _ => exact ⟨v0, v1, v2, v3, v4, rfl⟩
    simp at e0 e2 e3 e4 e5
    subst e0; subst e2; subst e3; subst e4; subst e5
    have h1 := bounds_i64 w0
    have h2 := bounds_u64 w3
    refine ⟨⟨hr, (s0, s1), bd, sf⟩, ⟨⟨h1.1, show hr < _ by omega⟩, h2.1, h2.2⟩, fun j hj => ?_⟩
    match j, hj with
    | 0, _ => exact ⟨_, _, rfl, rfl, rfl⟩
    | 1, _ => exact ⟨_, _, rfl, rfl, rfl⟩
    | 2, _ => exact ⟨_, _, rfl, rfl, rfl⟩
    | 3, _ => exact ⟨_, _, rfl, rfl, rfl⟩
    | 4, _ => exact ⟨_, _, rfl, rfl, rfl⟩
  exact ⟨a, l, h1, h2, h3, h5⟩

/-- The walk. -/
theorem RollupCalls_walk {H : Type} {enc : TypeId × Value → H} {w : World} {base : Nat} {held : Bool} {fuel : Nat} {fan a b : Int} {v : Value} {x : DataW H × List MemPlace} (h : DataW.trod enc P w base (fun _ => true) held fuel T.sl_api_Call [v] = some x) (hs : slcLen x.1 ≤ 1048576) :
    Calls P F.spoorlaw15_RollupCalls #[.int .i64 fan, v, .int .i64 a, .int .i64 b] w fun e w' => e = .returned (.bool true) ∧ Kept w w' := by
  obtain ⟨y, l, h1, h2, h3, h4⟩ := calls_read h
  exact CallsA.top (RollupCalls_ok h2 h3 (by unfold pow48; omega)) (.cons (.int _ _) (.cons (absV_ok h1) (.cons (.int _ _) (.cons (.int _ _) .nil))))
end
end Go.Eng.S

