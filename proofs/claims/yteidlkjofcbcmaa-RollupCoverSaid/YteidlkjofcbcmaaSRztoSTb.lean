/-
  'RollupCover': plain laws, and the walk.
  'RollupCover': the walk.
  'RollupCover': puts as a row hands them in.
-/
import Derived.Test.YteidlkjofcbcmaaSRotoSRy
import Derived.Test.YteidlkjofcbcmaaSKr
import Derived.Test.YteidlkjofcbcmaaW13to14
namespace Go.Eng.S
open Go Go.Eng Go.Proofs
set_option linter.constructorNameAsVariable false
set_option maxRecDepth 4000
noncomputable section
attribute [local irreducible] bsel barsOf mergeB

theorem filter_key {L : List (Edge × Tal)} {e : Edge} {t : Tal} : (L.map (·.1)).Nodup → (e, t) ∈ L → L.filter (fun y => decide (y.1 = e)) = [(e, t)] := by
  induction L with
  | nil => intro _ h; simp at h
  | cons p r ih =>
    intro hn h
    simp only [List.map_cons, List.nodup_cons] at hn
    rcases List.mem_cons.1 h with h1 | h1
    · subst h1
      rw [List.filter_cons_of_pos (by simp)]
      congr 1
      refine List.filter_eq_nil_iff.2 fun y hy c => hn.1 ?_
      have c : y.1 = e := by simpa using c
      exact List.mem_map.2 ⟨y, hy, c⟩
    · have : p.1 ≠ e := fun c => hn.1 (List.mem_map.2 ⟨(e, t), h1, c.symm⟩)
      rw [List.filter_cons_of_neg (by simpa using this)]
      exact ih hn.2 h1
theorem told_sum {S : Edge → GT} {L : List (Edge × Tal)} (h : ToldL S L) : sumE L = S := by
  funext e
  by_cases c : S e = .zero
  · rw [c]
    unfold sumE
    refine gsum_zero fun x hx => ?_
    obtain ⟨y, hy, rfl⟩ := List.mem_map.1 hx
    obtain ⟨h1, h2⟩ := List.mem_filter.1 hy
    have h2 : y.1 = e := by simpa using h2
    have := h.at h1
    rw [h2, c] at this
    exact absurd this.1 this.2
  · have hm := (h.mem e _).2 ⟨rfl, GT.val_ne.2 c⟩
    unfold sumE
    rw [filter_key h.nodup hm]
    simp only [List.map_cons, List.map_nil, gsum]
    rw [toGT_of, GT.plus_zero]
theorem sumE_append (a b : List (Edge × Tal)) (e : Edge) : sumE (a ++ b) e = (sumE a e).plus (sumE b e) := by
  unfold sumE
  rw [List.filter_append, List.map_append, gsum_append]
theorem sumH_nil {G : RollF} {hG : RollG G} {a : Int} (e : Edge) : sumH G hG a a e = .zero := by
  unfold sumH hrs
  simp [gsum]
theorem chain_sum {G : RollF} {hG : RollG G} : ∀ {W : List WinR} {a b : Int}, chainW a W b → (∀ w, w ∈ W → ToldL (sumH G hG w.at_ (w.at_ + w.width)) (etP w.L)) → sumE (etP (W.flatMap (·.L))) = sumH G hG a b
  | [], a, b, h, _ => by
    have h : a = b := h
    subst h
    funext e
    rw [sumH_nil]; rfl
  | w :: r, a, b, ⟨h1, h2, h3, h4⟩, ht => by
    funext e
    rw [List.flatMap_cons, etP_append, sumE_append, told_sum (ht w (List.mem_cons_self ..)), chain_sum h4 fun v hv => ht v (List.mem_cons_of_mem _ hv), h1]
    have := chainW_len h4
    rw [← sumH_split G hG (by omega) (by omega)]
theorem sumH_ne {G : RollF} {hG : RollG G} {a b : Int} {E0 : List Edge} (hE : ∀ h e, G h e ≠ .zero → e ∈ E0) (e : Edge) (h : sumH G hG a b e ≠ .zero) : e ∈ E0 := by
  refine Classical.byContradiction fun hn => h ?_
  refine gsum_zero fun x hx => ?_
  obtain ⟨h', _, rfl⟩ := List.mem_map.1 hx
  exact Subtype.ext (Classical.byContradiction fun h0 => hn (hE h' e h0))
theorem told_lenS {S : Edge → GT} {L : List (Edge × Tal)} {E0 : List Edge} (h : ToldL S L) (hE : ∀ e, S e ≠ .zero → e ∈ E0) : L.length ≤ E0.length := by
  have := nodup_length_le (a := L.map (·.1)) (b := E0) h.nodup fun e he => by
    obtain ⟨p, hp, rfl⟩ := List.mem_map.1 he
    refine hE _ fun h0 => ?_
    have := h.at hp
    rw [h0] at this
    exact this.2 this.1
  simpa using this
theorem told_fine {S : Edge → GT} {L : List ET} (h : ToldL S (etP L)) {s : St} (hb : ∀ y, y ∈ L → Sl barE s y.2.2 y.2.1.l) : ∀ y, y ∈ L → FineE s y := fun y hy => by
  have := h.at (p := (y.1, y.2.1)) (List.mem_map.2 ⟨y, hy, rfl⟩)
  simp only at this
  exact ⟨hb y hy, by rw [this.1]; exact (S y.1).2.1, by rw [this.1]; exact (S y.1).2.2, this.2⟩
theorem told_bars {S : Edge → GT} {L : List ET} (h : ToldL S (etP L)) : ∀ y, y ∈ L → y.2.1.l.length < 4611686018427387904 := fun y hy => by
  have := (h.at (p := (y.1, y.2.1)) (List.mem_map.2 ⟨y, hy, rfl⟩)).1
  simp only at this
  have ho := (S y.1).2.1
  rw [← this] at ho
  have := okB_len' ho
  omega
theorem told_key {S : Edge → GT} {L : List ET} {E0 : List Edge} (h : ToldL S (etP L)) (hE : ∀ e, S e ≠ .zero → e ∈ E0) : ∀ y, y ∈ L → y.1 ∈ E0 := fun y hy => by
  refine hE _ fun h0 => ?_
  have := h.at (p := (y.1, y.2.1)) (List.mem_map.2 ⟨y, hy, rfl⟩)
  simp only at this
  rw [h0] at this
  exact this.2 this.1

/-- Two parts of a range come to the whole. -/
theorem parts_ok {s0 s : St} {r : Nat} {fan : Int} {G : RollF} {fp : List Nat} (hR : Roll s r fan G fp) {a p b : Int} (h0 : 0 ≤ a) (h1 : a ≤ p) (h2 : p ≤ b) (h3 : b ≤ 2097152) {E0 : List Edge} (hE : ∀ h e, G h e ≠ .zero → e ∈ E0) (hb : (E0.length + 2 + (E0.length + 2) / 4 + 600) * 104 ≤ pow48)
    {x10 : AV} {L : List ET} (hx : EtS s0 s x10 L) (ht : ToldL (sumH G hR.good a b) (etP L)) :
    CallsA P F.spoorlaw15_edges [.ptr r 0, .int .i64 a, .int .i64 p] s fun x67 s68 => ∃ x69, x67 = x69 ∧ CallsA P F.spoorlaw15_edges [.ptr r 0, .int .i64 p, .int .i64 b] s68 fun x70 s71 => ∃ x72, x70 = x72 ∧
      oneK x69 (oneK x72 (∀ (m73 : Nat) (s74 : St), NewO s71 (cellsO [x69, x72]) m73 s74 → CallsA P F.spoorref15_Sum [.slice m73 0 2 (.exact 2)] s74 fun x75 s76 => ∃ x77, x75 = x77 ∧ CallsA P F.spoorref15_SameEdges [x77, x10] s76 fun x78 _ => ∃ c80 : Bool, x78 = .bool c80 ∧ AV.bool c80 = .bool true)) := by
  have hG := hR.good
  have hb1 : (E0.length + 1 + (E0.length + 1) / 4 + 600) * 104 ≤ pow48 := sz_le (n := E0.length) (by omega) (by omega) hb
  have hbig : E0.length < 4611686018427387904 := by unfold pow48 at hb; omega
  refine (edges_ok hR hE hb1).mono ?_
  rintro v1 s68 ⟨⟨L1, k1, k2⟩, f68, _⟩
  refine ⟨v1, rfl, (edges_ok (hR.ext f68) hE hb1).mono ?_⟩
  rintro v2 s71 ⟨⟨L2, g1, g2⟩, f71, _⟩
  have e1 : sumR G hG a p = sumH G hG a p := funext fun e => if_pos (by simp [rngOk]; omega)
  have e2 : sumR G hG p b = sumH G hG p b := funext fun e => if_pos (by simp [rngOk]; omega)
  rw [e1] at k2
  rw [e2] at g2
  have k71 := k1.et.ext f71
  refine ⟨v2, rfl, k71.so.sl.one (g1.et.so.sl.one fun m73 s74 hN => ?_)⟩
  have k74 := k71.ext hN.fwd
  have g74 := g1.et.ext hN.fwd
  have hsl : Sl lsE s74 (.slice m73 0 2 (.exact 2)) [(v1, L1), (v2, L2)] := .inr ⟨m73, 0, 2, .exact 2, rfl, rfl, hN.own.rd⟩
  have hk1 := told_key k2 (sumH_ne (hG := hG) hE)
  have hk2 := told_key g2 (sumH_ne (hG := hG) hE)
  have l1 := told_lenS k2 (sumH_ne (hG := hG) hE)
  have l2 := told_lenS g2 (sumH_ne (hG := hG) hE)
  rw [etP_len] at l1 l2
  refine (Sum_ok hsl (fun q hq => ?_) (E0 := E0) (fun q hq => ?_) hb (by simp) (fun q hq => ?_)).a.mono ?_
  · simp only [List.mem_cons, List.not_mem_nil, or_false] at hq
    rcases hq with rfl | rfl
    · exact ⟨k74.so.sl, told_fine k2 fun y hy => (k74.bars y hy).1⟩
    · exact ⟨g74.so.sl, told_fine g2 fun y hy => (g74.bars y hy).1⟩
  · simp only [List.mem_cons, List.not_mem_nil, or_false] at hq
    rcases hq with rfl | rfl
    · exact hk1
    · exact hk2
  · simp only [List.mem_cons, List.not_mem_nil, or_false] at hq
    rcases hq with rfl | rfl
    · exact Nat.lt_of_le_of_lt l1 hbig
    · exact Nat.lt_of_le_of_lt l2 hbig
  rintro v3 s76 ⟨⟨⟨L3, m1, m2⟩, f76⟩, _⟩
  refine ⟨v3, rfl, ?_⟩
  have hsum : sumE (etP (([(v1, L1), (v2, L2)] : List (AV × List ET)).flatMap (·.2))) = sumH G hG a b := by
    funext e
    simp only [List.flatMap_cons, List.flatMap_nil, List.append_nil]
    rw [etP_append, sumE_append, told_sum k2, told_sum g2, ← sumH_split G hG h1 h2]
  rw [hsum] at m2
  have hx76 := hx.ext (((f68.trans f71).trans hN.fwd).trans f76)
  have l3 := told_lenS m2 (sumH_ne (hG := hG) hE)
  rw [etP_len] at l3
  refine (SameEdges_ok m1.so.sl hx76.so.sl (fun y hy => (m1.bars y hy).1) (fun y hy => (hx76.bars y hy).1) (m2.unique ht) (by omega) (told_bars m2)).a.mono ?_
  rintro _ _ ⟨⟨rfl, _⟩, _⟩
  exact ⟨true, rfl, rfl⟩
end
end Go.Eng.S

namespace Go.Eng.S
open Go Go.Eng Go.Proofs
set_option linter.constructorNameAsVariable false
set_option maxRecDepth 4000
noncomputable section
attribute [local irreducible] bsel barsOf mergeB

theorem sz24 {k : Nat} (h : k ≤ 4194304) : (k + 1 + (k + 1) / 4 + 600) * 24 ≤ pow48 := by unfold pow48; omega
theorem sz24' {k : Nat} (h : k ≤ 4194304) : k + 1 ≤ pow48 := by unfold pow48; omega
set_option maxHeartbeats 1000000 in
theorem RollupCover_ok {s : St} {fan a b c : Int} {l : List PutR} {x : AV} (hx : Sl putE s x l) (hp : ∀ p, p ∈ l → FineP s p) (hlen : (l.length + 2 + (l.length + 2) / 4 + 600) * 104 ≤ pow48) :
    CallsA P F.spoorlaw15_RollupCover [.int .i64 fan, x, .int .i64 a, .int .i64 b, .int .i64 c] s fun v _ => v = .bool true := by
  have hbig : l.length < 4611686018427387904 := by unfold pow48 at hlen; omega
  refine vc.spoorlaw15_RollupCover_ok ((alive_ok s).mono ?_)
  rintro _ s2 ⟨rfl, rfl⟩
  refine ⟨true, rfl, (filled_ok (fan := fan) hx hp hbig).a.mono ?_⟩
  rintro v s5 ⟨⟨hv, f5⟩, hfr5⟩
  split at hv
  · rename_i hfan
    obtain ⟨r, fp, rfl, hRO⟩ := hv
    have hR := hRO.roll
    have hG := hR.good
    have hE : ∀ h e, fillG zeroF l h e ≠ .zero → e ∈ l.map (·.edge) := fun h e hn => by
      rcases fillG_ne hn with h1 | h1
      · exact absurd rfl h1
      · exact h1
    have hb2 : ((l.map (·.edge)).length + 2 + ((l.map (·.edge)).length + 2) / 4 + 600) * 104 ≤ pow48 := sz_le (n := l.length) (by rw [List.length_map]; omega) (by omega) hlen
    have hb1 : ((l.map (·.edge)).length + 1 + ((l.map (·.edge)).length + 1) / 4 + 600) * 104 ≤ pow48 := sz_le (n := l.length) (by rw [List.length_map]; omega) (by omega) hlen
    have hE0 : (l.map (·.edge)).length < 4611686018427387904 := by rw [List.length_map]; exact hbig
    generalize l.map (·.edge) = E0 at hE hb2 hb1 hE0
    generalize fillG zeroF l = G at hR hG hE hRO
    refine ⟨.ptr r 0, rfl, bsel_of (fun c => by simp at c) fun _ => nilK_ptr (bsel_of (fun c => by simp at c) fun _ => ?_)⟩
    refine (Range_ok hR (a := a) (b := b) hE hb1).mono ?_
    rintro v8 s9 ⟨hv8, f9, hfr9⟩
    by_cases hrng : rngOk a b = true
    · rw [if_pos hrng] at hv8
      obtain ⟨x10, L10, rfl, hL10, ht10⟩ := hv8
      refine ⟨x10, 0, rfl, (Cover_ok (hR.ext f9) hfan (a := a) (b := b) hE hb1).mono ?_⟩
      rintro v12 s13 ⟨hv12, f13, hfr13⟩
      rw [if_pos hrng] at hv12
      obtain ⟨x14, W, rfl, hW, hch⟩ := hv12
      have hrng' : 0 ≤ a ∧ a ≤ b ∧ b ≤ 2097152 := by simpa [rngOk, and_assoc] using hrng
      have hR13 := (hR.ext f9).ext f13
      have hL13 := hL10.et.ext f13
      have hWl := chainW_len hch
      refine ⟨x14, 0, rfl, bsel_of (fun c => by simp at c) fun _ => bsel_of (fun c => by simp at c) fun _ => ?_⟩
      refine ⟨fun x22 n23 n24 s25 m => ∃ i : Nat, n24 = i ∧ m = W.length - i ∧ i ≤ W.length ∧ a ≤ n23 ∧ chainW n23 (W.drop i) b ∧ So lsE s25 x22 ((W.take i).map fun w => (w.x, w.L)) ∧ (∀ c, c ∈ blkOf x22 → s13.h.get c = none) ∧ Frw [] s13 s25 ∧ Fr s25, ⟨_, 0, rfl, rfl, by omega, by omega, hch, .nil _ _, by simp [blkOf], .refl _ _, hfr13⟩, ?_⟩
      rintro x22 n23 _ s25 _ ⟨i, rfl, rfl, hi, han, hci, hso, hnew, f25, hfr25⟩
      have hW25 := hW.ext f25
      refine hW25.so.sl.slen (bsel_of (fun cc => ?_) fun cc => ?_)
      · have cc : i < W.length := by simpa using cc
        rw [drop_at cc] at hci
        obtain ⟨g1, g2, g3, g4⟩ := hci
        have g4l := chainW_len g4
        intro s28 hB
        have f28 := f25.trans hB.fwd
        have hW28 := hW.ext f28
        have hwin := hW28.so.sl
        have hW1 := hW28.each W[i] (List.getElem_mem cc)
        refine hwin.ixs rfl rfl cc fun b1 o1 hR1 => ⟨_, hR1.ld1 0 rfl, bsel_of (fun c => by simp at c; exact absurd g1 c) fun _ => ?_⟩
        refine hwin.ixs rfl rfl cc fun b2 o2 hR2 => ⟨_, hR2.ld1 1 rfl, bsel_of (fun c => by simp at c; omega) fun _ => ?_⟩
        refine hwin.ixs rfl rfl cc fun b3 o3 hR3 => ⟨_, hR3.ld1 1 rfl, by omega, bsel_of (fun c => by rw [g3] at c; simp at c) fun _ => ?_⟩
        refine hwin.ixs rfl rfl cc fun b4 o4 hR4 => ⟨_, hR4.ld1 2 rfl, hwin.ixs rfl rfl cc fun b5 o5 hR5 => ⟨_, hR5.ld1 1 rfl, ?_⟩⟩
        rw [wrap_i64 (a := n23 + W[i].width) (by omega) (by omega)]
        refine (edges_okD (hR13.ext f28) (a := n23) (b := n23 + W[i].width) hE hb1).mono ?_
        rintro v44 s45 ⟨⟨⟨L, k1, k2⟩, f45⟩, hfr45⟩
        refine ⟨v44, rfl, (hR4.fwd f45 (by simp)).ld1 2 rfl, hwin.noSym ?_⟩
        have e1 : sumR G hG n23 (n23 + W[i].width) = sumH G hG n23 (n23 + W[i].width) := funext fun e => if_pos (by simp [rngOk]; omega)
        rw [e1] at k2
        have hW45 := (hW28.ext f45).each W[i] (List.getElem_mem cc)
        obtain ⟨j1, _, j3, j4⟩ := hW45
        rw [g1] at j4
        have jl := told_lenS j4 (sumH_ne (hG := hG) hE)
        rw [etP_len] at jl
        refine (SameEdges_ok j1 k1.so.sl (fun y hy => (j3 y hy).1) (fun y hy => (k1.bars y hy).1) (j4.unique k2) (by omega) (told_bars j4)).mono ?_
        rintro _ s48 ⟨⟨rfl, f48⟩, hfr48⟩
        refine ⟨true, rfl, bsel_of (fun c => by simp at c) fun _ => ?_⟩
        have f48' := f45.trans f48
        have hwin48 := hwin.ext f48'
        refine hwin48.ixs rfl rfl cc fun b6 o6 hR6 => ⟨_, hR6.ld1 1 rfl, hwin48.ixs rfl rfl cc fun b7 o7 hR7 => ⟨_, hR7.ld1 2 rfl, (j1.ext f48).one ?_⟩⟩
        intro m56 s57 hN
        have f57 := (hB.fwd.trans f48').trans hN.fwd
        have hlt : ((W.take i).map fun w => (w.x, w.L)).length ≤ 4194304 := by
          rw [List.length_map, List.length_take, Nat.min_eq_left hi]; omega
        obtain ⟨x58, s59, q1, q2, q3, q4, q5, q6⟩ := So.append' (a := ((W[i].x, W[i].L) : AV × List ET)) (hso.ext f57) ty.sl_sl_api_EdgeTally rfl ty.sl_api_EdgeTally rfl rfl rfl (j1.onesx []) hN.own.rd rfl (sz24 hlt) (sz24' hlt) hN.fr
        rw [wrap_i64 (a := n23 + W[i].width) (by omega) (by omega)]
        refine ⟨x58, s59, q1, W.length - (i + 1), by omega, i + 1, wrap_succ (by omega), rfl, by omega, by omega, g4, ?_, fun d hd => ?_, (f25.trans f57).step q3 hnew, q5⟩
        · rw [← List.take_append_getElem cc, List.map_append]; exact q2
        · rw [q4] at hd
          have : d = s57.nx := by simpa using hd
          rw [this]
          exact (f25.trans f57).none (hN.fr _ (Nat.le_refl _)) (by simp)
      · have cc : i = W.length := by simp at cc; omega
        subst cc
        rw [List.drop_length] at hci
        have hci : n23 = b := hci
        subst hci
        rw [List.take_length] at hso
        refine bsel_of (fun c => by simp at c) fun _ => ?_
        have htold : ∀ w, w ∈ W → ToldL (sumH G hG w.at_ (w.at_ + w.width)) (etP w.L) := fun w hw => (hW25.each w hw).2.2.2
        have hXS : ∀ p, p ∈ W.map (fun w => (w.x, w.L)) → ∃ w, w ∈ W ∧ p = (w.x, w.L) := fun p hp => by
          obtain ⟨w, h1, h2⟩ := List.mem_map.1 hp
          exact ⟨w, h1, h2.symm⟩
        refine (Sum_ok hso.sl (fun p hp => ?_) (E0 := E0) (fun p hp => ?_) hb2 (by rw [List.length_map]; omega) (fun p hp => ?_)).a.mono ?_
        · obtain ⟨w, h1, rfl⟩ := hXS p hp
          obtain ⟨k1, _, k3, k4⟩ := hW25.each w h1
          exact ⟨k1, told_fine k4 fun y hy => (k3 y hy).1⟩
        · obtain ⟨w, h1, rfl⟩ := hXS p hp
          exact told_key (htold w h1) (sumH_ne (hG := hG) hE)
        · obtain ⟨w, h1, rfl⟩ := hXS p hp
          have := told_lenS (htold w h1) (sumH_ne (hG := hG) hE)
          rw [etP_len] at this
          exact Nat.lt_of_le_of_lt this hE0
        rintro v61 s62 ⟨⟨⟨L3, m1, m2⟩, f62⟩, hfr62⟩
        refine ⟨v61, rfl, ?_⟩
        have hfl : (W.map fun w => (w.x, w.L)).flatMap (·.2) = W.flatMap (·.L) := by rw [List.flatMap_map]
        rw [hfl, chain_sum hch htold] at m2
        have hx62 := (hL13.ext f25).ext f62
        have l3 := told_lenS m2 (sumH_ne (hG := hG) hE)
        rw [etP_len] at l3
        refine (SameEdges_ok m1.so.sl hx62.so.sl (fun y hy => (m1.bars y hy).1) (fun y hy => (hx62.bars y hy).1) (m2.unique ht10) (by omega) (told_bars m2)).a.mono ?_
        rintro _ s65 ⟨⟨rfl, f65⟩, hfr65⟩
        refine ⟨true, rfl, bsel_of (fun c => by simp at c) fun _ => ?_⟩
        have hR65 := (hR13.ext f25).ext (f62.trans f65)
        have hx65 := hx62.ext f65
        refine bsel_of (fun c1 => ?_) fun c1 => bsel_of (fun c2 => ?_) fun c2 => ?_
        · exact parts_ok hR65 (by omega) (Int.le_refl a) (by omega) (by omega) hE hb2 hx65 ht10
        · exact parts_ok hR65 (by omega) (Int.le_refl a) (by omega) (by omega) hE hb2 hx65 ht10
        · simp only [decide_eq_false_iff_not] at c1 c2
          exact parts_ok hR65 (by omega) (by omega) (by omega) (by omega) hE hb2 hx65 ht10
    · rw [if_neg hrng] at hv8
      subst hv8
      refine ⟨.nilslice, 151, rfl, (Cover_ok (hR.ext f9) hfan (a := a) (b := b) hE hb1).mono ?_⟩
      rintro v12 s13 ⟨hv12, f13, hfr13⟩
      rw [if_neg hrng] at hv12
      subst hv12
      refine ⟨.nilslice, 151, rfl, bsel_of (fun c => by simp at c) fun _ => bsel_of (fun _ => bsel_of (fun _ => ?_) fun c => by simp at c) fun c => by simp at c⟩
      refine (Sl.nil lsE s13).slen (bsel_of (fun _ => (Sl.nil lsE s13).slen (bsel_of (fun _ => ?_) fun c => by simp at c)) fun c => by simp at c)
      refine bsel_of (fun _ => rfl) fun c1 => bsel_of (fun _ => rfl) fun c2 => ?_
      simp only [decide_eq_false_iff_not] at c1 c2
      have : b > 2097152 := by
        refine Classical.byContradiction fun hn => hrng ?_
        simp [rngOk]; omega
      simp [this]
  · rename_i hfan
    subst hv
    refine ⟨.nilptr, rfl, bsel_of (fun c => by simp at c) fun _ => nilK_nilptr (bsel_of (fun _ => bsel_of (fun _ => bsel_of (fun _ => rfl) fun c1 => ?_) fun c => by simp at c) fun c => by simp at c)⟩
    simp only [decide_eq_false_iff_not] at c1
    have : fan > 16 := by omega
    simp [this]
end
end Go.Eng.S

namespace Go.Eng.S
open Go Go.Eng Go.Proofs
set_option linter.constructorNameAsVariable false
noncomputable section
instance : Inhabited PutR := ⟨⟨0, (ByteArray.empty, ByteArray.empty), .zero, .nilslice⟩⟩
variable {H : Type} {enc : TypeId × Value → H} {w : World} {base : Nat} {held : Bool} {fuel : Nat}

theorem bars_read {v : Value} {x : DataW H × List MemPlace} (h : DataW.trod enc P w base (fun _ => true) held fuel T.sl_api_Bar [v] = some x) :
    ∃ (a : AV) (l : List Bar), absV w.heap.size v = some a ∧ Sl barE (stW w) a l ∧ RngB l ∧ l.length ≤ maxLen := by
  refine slice_read barE RngP h Try.underlying49 (by kernel_rfl) fun n cs y hy hl => ?_
  obtain ⟨a, b, rfl, wa, wb⟩ := pair_read hy Try.underlying80 rfl rfl rfl rfl Try.underlying3 Try.underlying46 (by kernel_rfl) (by kernel_rfl) (by kernel_rfl)
  have h1 := bounds_i64 wa
  have h2 := bounds_u64 wb
  refine ⟨(a, b), ⟨h1.1, by omega, h2.1, h2.2⟩, fun j hj => ?_⟩
  match j, hj with
  | 0, _ => exact ⟨_, _, rfl, rfl, rfl⟩
  | 1, _ => exact ⟨_, _, rfl, rfl, rfl⟩

set_option maxRecDepth 100000 in
theorem tal_cells {cs : List Value} {y : DataW H × List MemPlace} (h : DataW.trod enc P w base (fun _ => true) held fuel T.api_Tally cs = some y) :
    ∃ (t : Tal) (x : AV) (v6 : Value), cs = [.int .u64 t.a.1, .int .u64 t.a.2, .int .u64 t.b.1, .int .u64 t.b.2, .int .u64 t.c.1, .int .u64 t.c.2, v6] ∧ absV w.heap.size v6 = some x ∧ Sl barE (stW w) x t.l ∧ t.Rng := by
  obtain ⟨xs, n, _, _, hl, hx, hf⟩ := DataW.trod_struct Try.underlying51 h
  rw [show P.cellsOf T.api_Tally = 7 by kernel_rfl] at hl
  have hf' := fun i f (hf0 : _) => hf i f hf0
  change xs.length = 4 at hx
  have g0 := hf' 0 _ rfl
  have g1 := hf' 1 _ rfl
  have g2 := hf' 2 _ rfl
  have g3 := hf' 3 _ rfl
  rw [List.getElem?_eq_getElem (by omega)] at g0 g1 g2 g3
  have pr : ∀ {n : Nat} {cs : List Value} {y : DataW H × List MemPlace}, DataW.trod enc P w base (fun _ => true) held n T.api_Nat cs = some y → ∃ a b, cs = [.int .u64 a, .int .u64 b] ∧ Rng2 (a, b) := by
    intro n cs y hy
    obtain ⟨a, b, rfl, wa, wb⟩ := pair_read hy Try.underlying48 rfl rfl rfl rfl Try.underlying46 Try.underlying46 (by kernel_rfl) (by kernel_rfl) (by kernel_rfl)
    exact ⟨a, b, rfl, bounds_u64 wa, bounds_u64 wb⟩
  obtain ⟨a1, a2, e0, r0⟩ := pr g0
  obtain ⟨b1, b2, e1, r1⟩ := pr g1
  obtain ⟨c1, c2, e2, r2⟩ := pr g2
  obtain ⟨v0, v1, v2, v3, v4, v5, v6, rfl⟩ : ∃ v0 v1 v2 v3 v4 v5 v6, cs = [v0, v1, v2, v3, v4, v5, v6] := by
    match cs, hl with
    | [v0, v1, v2, v3, v4, v5, v6], _ => exact ⟨v0, v1, v2, v3, v4, v5, v6, rfl⟩
  change List.take (P.cellsOf T.api_Nat) (List.drop 0 [v0, v1, v2, v3, v4, v5, v6]) = _ at e0
  change List.take (P.cellsOf T.api_Nat) (List.drop 2 [v0, v1, v2, v3, v4, v5, v6]) = _ at e1
  change List.take (P.cellsOf T.api_Nat) (List.drop 4 [v0, v1, v2, v3, v4, v5, v6]) = _ at e2
  change DataW.trod enc P w base (fun _ => true) held n T.sl_api_Bar (List.take (P.cellsOf T.sl_api_Bar) (List.drop 6 [v0, v1, v2, v3, v4, v5, v6])) = _ at g3
  rw [show P.cellsOf T.api_Nat = 2 by kernel_rfl] at e0 e1 e2
  rw [show P.cellsOf T.sl_api_Bar = 1 by kernel_rfl] at g3
  simp at e0 e1 e2
  obtain ⟨rfl, rfl⟩ := e0
  obtain ⟨rfl, rfl⟩ := e1
  obtain ⟨rfl, rfl⟩ := e2
  obtain ⟨x, l, q1, q2, q3, q4⟩ := bars_read (v := v6) g3
  exact ⟨⟨(a1, a2), (b1, b2), (c1, c2), l⟩, x, v6, rfl, q1, q2, ⟨r0, r1, r2, q3⟩⟩

set_option maxRecDepth 100000 in
theorem edge_cells {cs : List Value} {y : DataW H × List MemPlace} (h : DataW.trod enc P w base (fun _ => true) held fuel T.api_Edge cs = some y) :
    ∃ s0 s1 : ByteArray, cs = [.string s0, .string s1] := by
  obtain ⟨xs1, n1, _, _, hl1, hx1, hf1⟩ := DataW.trod_struct Try.underlying45 h
  rw [show P.cellsOf T.api_Edge = 2 by kernel_rfl] at hl1
  change xs1.length = 2 at hx1
  have k0 := hf1 0 _ rfl
  have k1 := hf1 1 _ rfl
  rw [List.getElem?_eq_getElem (by omega)] at k0 k1
  change DataW.trod enc P w base (fun _ => true) held n1 T.ystring_9 (List.take (P.cellsOf T.ystring_9) (List.drop 0 cs)) = _ at k0
  change DataW.trod enc P w base (fun _ => true) held n1 T.ystring_9 (List.take (P.cellsOf T.ystring_9) (List.drop 1 cs)) = _ at k1
  obtain ⟨s0, e4, _, _⟩ := DataW.trod_string Try.underlying9 k0
  obtain ⟨s1, e5, _, _⟩ := DataW.trod_string Try.underlying9 k1
  rw [show P.cellsOf T.ystring_9 = 1 by kernel_rfl] at e4 e5
  obtain ⟨v0, v1, rfl⟩ : ∃ v0 v1, cs = [v0, v1] := by
    match cs, hl1 with
    | [v0, v1], _ => exact ⟨v0, v1, rfl⟩
  simp at e4 e5
  exact ⟨s0, s1, by rw [e4, e5]⟩

set_option maxRecDepth 100000 in
theorem puts_read {v : Value} {x : DataW H × List MemPlace} (h : DataW.trod enc P w base (fun _ => true) held fuel T.sl_spoorlaw15_Put [v] = some x) :
    ∃ (a : AV) (l : List PutR), absV w.heap.size v = some a ∧ Sl putE (stW w) a l ∧ (∀ p, p ∈ l → FineP (stW w) p) ∧ l.length ≤ slcLen x.1 := by
  obtain ⟨a, l, h1, h2, h3, _, h5⟩ := slice_read2 putE (FineP (stW w)) h Try.underlying22 (by kernel_rfl) fun n cs y hy hl => by
    have hl : cs.length = 10 := hl
    obtain ⟨xs, n, _, _, _, hx, hf⟩ := DataW.trod_struct Try.underlying53 hy
    change xs.length = 3 at hx
    have hf' := fun i f (hf0 : _) => hf i f hf0
    have g0 := hf' 0 _ rfl
    have g1 := hf' 1 _ rfl
    have g2 := hf' 2 _ rfl
    rw [List.getElem?_eq_getElem (by omega)] at g0 g1 g2
    change DataW.trod enc P w base (fun _ => true) held n T.int64 (List.take (P.cellsOf T.int64) (List.drop 0 cs)) = _ at g0
    change DataW.trod enc P w base (fun _ => true) held n T.api_Edge (List.take (P.cellsOf T.api_Edge) (List.drop 1 cs)) = _ at g1
    change DataW.trod enc P w base (fun _ => true) held n T.api_Tally (List.take (P.cellsOf T.api_Tally) (List.drop 3 cs)) = _ at g2
    obtain ⟨hr, e0, _, w0⟩ := DataW.trod_int Try.underlying2 g0
    obtain ⟨s0, s1, e1⟩ := edge_cells g1
    obtain ⟨t, z, v6, e2, q1, q2, q3⟩ := tal_cells g2
    rw [show P.cellsOf T.int64 = 1 by kernel_rfl] at e0
    rw [show P.cellsOf T.api_Edge = 2 by kernel_rfl] at e1
    rw [show P.cellsOf T.api_Tally = 7 by kernel_rfl] at e2
    obtain ⟨c0, c1, c2, c3, c4, c5, c6, c7, c8, c9, rfl⟩ : ∃ c0 c1 c2 c3 c4 c5 c6 c7 c8 c9, cs = [c0, c1, c2, c3, c4, c5, c6, c7, c8, c9] := by
      match cs, hl with
      | [c0, c1, c2, c3, c4, c5, c6, c7, c8, c9], _ => exact ⟨c0, c1, c2, c3, c4, c5, c6, c7, c8, c9, rfl⟩
    simp at e0 e1 e2
    obtain ⟨rfl, rfl⟩ := e1
    obtain ⟨rfl, rfl, rfl, rfl, rfl, rfl, rfl⟩ := e2
    subst e0
    refine ⟨⟨hr, (s0, s1), t, z⟩, ⟨q2, q3⟩, fun j hj => ?_⟩
    match j, hj with
    | 0, _ => exact ⟨_, _, rfl, rfl, rfl⟩
    | 1, _ => exact ⟨_, _, rfl, rfl, rfl⟩
    | 2, _ => exact ⟨_, _, rfl, rfl, rfl⟩
    | 3, _ => exact ⟨_, _, rfl, rfl, rfl⟩
    | 4, _ => exact ⟨_, _, rfl, rfl, rfl⟩
    | 5, _ => exact ⟨_, _, rfl, rfl, rfl⟩
    | 6, _ => exact ⟨_, _, rfl, rfl, rfl⟩
    | 7, _ => exact ⟨_, _, rfl, rfl, rfl⟩
    | 8, _ => exact ⟨_, _, rfl, rfl, rfl⟩
    | 9, _ => exact ⟨_, _, rfl, rfl, q1⟩
  exact ⟨a, l, h1, h2, h3, h5⟩

/-- The walk. -/
theorem RollupCover_walk {fan a b c : Int} {v : Value} {x : DataW H × List MemPlace} (h : DataW.trod enc P w base (fun _ => true) held fuel T.sl_spoorlaw15_Put [v] = some x) (hs : slcLen x.1 * 112 ≤ 140737488351232) :
    Calls P F.spoorlaw15_RollupCover #[.int .i64 fan, v, .int .i64 a, .int .i64 b, .int .i64 c] w fun e w' => e = .returned (.bool true) ∧ Kept w w' := by
  obtain ⟨y, l, h1, h2, h3, h4⟩ := puts_read h
  exact CallsA.top (RollupCover_ok h2 h3 (by unfold pow48; omega)) (.cons (.int _ _) (.cons (absV_ok h1) (.cons (.int _ _) (.cons (.int _ _) (.cons (.int _ _) .nil)))))
end
end Go.Eng.S

