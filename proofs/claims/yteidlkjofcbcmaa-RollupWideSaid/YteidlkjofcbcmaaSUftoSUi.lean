/-
  A range is covered by windows that are as wide as they can be.
  How many windows of a width there are; the windows of a level come to the whole.
  'RollupWide': the walk.
  'RollupWide': the walk, from what a row hands in.
-/
import Derived.Test.YteidlkjofcbcmaaSRztoSUc
import Derived.Test.YteidlkjofcbcmaaSVs3to3
namespace Go.Eng.S
open Go Go.Eng Go.Proofs
set_option linter.constructorNameAsVariable false
set_option maxRecDepth 4000
noncomputable section
attribute [local irreducible] bsel barsOf mergeB
def GreedW (fan b : Int) (w : WinR) : Prop := (∃ k, wideN fan k = some w.width) ∧ ¬ (Int.tmod w.at_ (w.width * fan) = 0 ∧ w.at_ + w.width * fan ≤ b)
theorem CoverM_ok {s : St} {r : Nat} {fan : Int} {G : RollF} {fp : List Nat} (hR : Roll s r fan G fp) (hfan : 2 ≤ fan ∧ fan ≤ 16) {a b : Int} {E0 : List Edge} (hE : ∀ h e, G h e ≠ .zero → e ∈ E0) (hb : (E0.length + 1 + (E0.length + 1) / 4 + 600) * 104 ≤ pow48) :
  CallsA P F.p_rollup_Rollup_Cover [.ptr r 0, .int .i64 a, .int .i64 b] s fun v s' => (if rngOk a b = true then ∃ x W, v = .tuple [x, .int .i64 0] ∧ WinS s s' G hR.good x W ∧ chainW a W b ∧ ∀ w, w ∈ W → GreedW fan b w else v = .tuple [.nilslice, .int .i64 151]) ∧ Frw [] s s' ∧ Fr s' := by
 have hG := hR.good
 refine CallsA.fr fun hfr => vc.p_rollup_Rollup_Cover_ok (bsel_of (fun c => ?_) fun c => bsel_of (fun c2 => ?_) fun c2 => bsel_of (fun c3 => ?_) fun c3 => ?_)
 ·simp at c
  exact ⟨by rw [if_neg (by simp [rngOk]; omega)], .refl _ _, hfr⟩
 ·simp at c c2
  exact ⟨by rw [if_neg (by simp [rngOk]; omega)], .refl _ _, hfr⟩
 ·simp at c c2 c3
  exact ⟨by rw [if_neg (by simp [rngOk]; omega)], .refl _ _, hfr⟩
 simp at c c2 c3
 refine ⟨fun n3 x4 s5 m => ∃ W, a ≤ n3 ∧ n3 ≤ b ∧ m = (b - n3).toNat ∧ WinS s s5 G hG x4 W ∧ chainW a W n3 ∧ (∀ w, w ∈ W → GreedW fan b w) ∧ Frw [] s s5 ∧ Fr s5, ⟨_, [], by omega, by omega, rfl, ⟨.nil _ _, by simp [blkOf], by simp⟩, rfl, by simp, .refl _ _, hfr⟩, ?_⟩
 rintro n3 x4 s5 _ ⟨W, h1, h2, rfl, hW, hch, hgr, f5, hfr5⟩
 refine bsel_of (fun cb => ?_) fun cb => ?_
 ·have cb : n3 < b := by simpa using cb
  refine ⟨fun n9 n10 s11 m => ∃ j : Nat, n10 = ((j + 1 : Nat) : Int) ∧ m = 30 - j ∧ wideN fan j = some n9 ∧ Int.tmod n3 n9 = 0 ∧ n3 + n9 ≤ b ∧ s11 = s5, ⟨_, 0, rfl, rfl, rfl, by simp, by omega, rfl⟩, ?_⟩
  rintro n9 _ s6 _ ⟨j, rfl, rfl, hw, g3, g4, rfl⟩
  obtain ⟨p1, p2, p3⟩ := wideN_some hfan hw
  have hp : 0 < 2 ^ j := Nat.pow_pos (by omega)
  have hR5 := hR.ext f5
  have hWl := chainW_len hch
  have fin : ¬ (Int.tmod n3 (n9 * fan) = 0 ∧ n3 + n9 * fan ≤ b) → CallsA P F.p_rollup_Rollup_window [.ptr r 0, .int .i64 n3, .int .i64 n9] s6 fun x17 s18 =>
    ∃ (n19 n20 : Int) (x21 : AV), x17 = .agg [.int .i64 n19, .int .i64 n20, x21] ∧ ∀ (m22 : Nat) (s23 : St), NewO s18 (cellsO [.int .i64 n19, .int .i64 n20, x21]) m22 s23 →
    ∃ (x24 : AV) (s25 : St), appendX D s23 T.sl_api_Window T.sl_api_Window x4 (.slice m22 0 1 (.exact 1)) = some (x24, s25) ∧ ∃ m26, m26 < (b - n3).toNat ∧ ∃ W, a ≤ IntKind.wrap .i64 (n3 + n9) ∧ IntKind.wrap .i64 (n3 + n9) ≤ b ∧ m26 = (b - IntKind.wrap .i64 (n3 + n9)).toNat ∧ WinS s s25 G hG x24 W ∧ chainW a W (IntKind.wrap .i64 (n3 + n9)) ∧ (∀ w, w ∈ W → GreedW fan b w) ∧ Frw [] s s25 ∧ Fr s25 := by
   intro hmax
   refine (window_ok hR5 (a := n3) (w := n9) (by omega) (by omega) hE hb).mono ?_
   rintro v s18 ⟨⟨x, L, rfl, k1, k2⟩, k3, k4⟩
   refine ⟨n3, n9, x, rfl, fun m22 s23 hN => ?_⟩
   obtain ⟨x', s25, q1, q2, q3, q4⟩ := hW.next (w := ⟨n3, n9, x, L⟩) f5 hfr5 k1 k2 k3 hN (by omega)
   rw [wrap_i64 (by omega) (by omega)]
   refine ⟨x', s25, q1, (b - (n3 + n9)).toNat, by omega, _, by omega, by omega, rfl, q2, chainW_snoc (w := ⟨n3, n9, x, L⟩) hch rfl (by show 1 ≤ n9; omega) g3, fun w hw' => ?_, q3, q4⟩
   rcases List.mem_append.1 hw' with hw' | hw'
   ·exact hgr w hw'
   ·have : w = ⟨n3, n9, x, L⟩ := by simpa using hw'
    rw [this]
    exact ⟨⟨j, hw⟩, hmax⟩
  have hnx : wideN fan (j + 1) = if 2097152 ≤ n9 then none else some (n9 * fan) := by simp only [wideN, hw]
  have hwi : wideI fan ((j + 1 : Nat) : Int) = wideN fan (j + 1) := by
   unfold wideI
   rw [if_neg (by omega), Int.toNat_natCast]
  refine (wideX_ok hR5 hfan ((j + 1 : Nat) : Int) (by omega)).a.mono ?_
  rintro _ s14 ⟨rfl, rfl⟩
  rw [hwi, hnx]
  have h9 : n9 * 2 ≤ n9 * fan := Int.mul_le_mul_of_nonneg_left hfan.1 (by omega)
  have h10 : n9 * fan ≤ n9 * 16 := Int.mul_le_mul_of_nonneg_left hfan.2 (by omega)
  by_cases cw : 2097152 ≤ n9
  ·rw [if_pos cw]
   refine ⟨0, false, rfl, bsel_of (fun _ => fin fun h => by omega) fun c => by simp at c⟩
  ·rw [if_neg cw]
   refine ⟨n9 * fan, true, rfl, bsel_of (fun c => by simp at c) fun _ => ⟨by omega, bsel_of (fun c5 => fin fun h => ?_) fun c5 => bsel_of (fun c6 => fin fun h => ?_) fun c6 => ?_⟩⟩
   ·rw [h.1] at c5; simp at c5
   ·rw [wrap_i64 (by omega) (by omega)] at c6
    simp at c6; omega
   ·rw [wrap_i64 (by omega) (by omega)] at c6
    simp only [decide_eq_false_iff_not] at c6
    refine ⟨30 - (j + 1), by omega, j + 1, wr_succ (by omega), rfl, ?_, by simpa using c5, by omega, rfl⟩
    rw [hnx, if_neg cw]
 ·have cb : n3 = b := by simp at cb; omega
  subst cb
  exact ⟨by rw [if_pos (by simp [rngOk]; omega)]; exact ⟨x4, W, rfl, hW, hch, hgr⟩, f5, hfr5⟩
end
end Go.Eng.S

namespace Go.Eng.S
open Go Go.Eng Go.Proofs
set_option linter.constructorNameAsVariable false
set_option maxRecDepth 4000
noncomputable section
attribute [local irreducible] bsel barsOf mergeB
theorem wideN_pow {fan : Int} : ∀ {k : Nat} {m : Int}, wideN fan k = some m → m = fan ^ k
 | 0, m, h => by simp [wideN] at h; simp [h]
 | k + 1, m, h => by
  simp only [wideN] at h
  split at h
  ·rename_i m' hm
   split at h
   ·simp at h
   ·simp at h
    rw [← h, wideN_pow hm, Int.pow_succ]
  ·simp at h
theorem ipow_dvd (f : Int) {j k : Nat} (h : j ≤ k) : f ^ j ∣ f ^ k := ⟨f ^ (k - j), by rw [← Int.pow_add]; congr 1; omega⟩
theorem chain_pos : ∀ {W : List WinR} {a b : Int}, chainW a W b → ∀ w, w ∈ W → a ≤ w.at_ ∧ w.at_ + w.width ≤ b ∧ 1 ≤ w.width ∧ w.width ∣ w.at_
 | [], _, _, _, w, hw => by simp at hw
 | v :: r, a, b, ⟨h1, h2, h3, h4⟩, w, hw => by
  have hl := chainW_len h4
  rcases List.mem_cons.1 hw with rfl | hw
  ·exact ⟨by omega, by omega, h2, by rw [h1]; exact Int.dvd_of_tmod_eq_zero h3⟩
  ·obtain ⟨g1, g2, g3, g4⟩ := chain_pos h4 w hw
   exact ⟨by omega, g2, g3, g4⟩
theorem chain_cover : ∀ {W : List WinR} {a b q : Int}, chainW a W b → a ≤ q → q < b → ∃ w, w ∈ W ∧ w.at_ ≤ q ∧ q < w.at_ + w.width
 | [], a, b, q, h, h1, h2 => by have h : a = b := h; omega
 | v :: r, a, b, q, ⟨h1, h2, h3, h4⟩, g1, g2 => by
  by_cases c : q < a + v.width
  ·exact ⟨v, List.mem_cons_self .., by omega, by omega⟩
  ·obtain ⟨w, hw, k1, k2⟩ := chain_cover h4 (by omega) g2
   exact ⟨w, List.mem_cons_of_mem _ hw, k1, k2⟩
theorem chain_one : ∀ {W : List WinR} {a b q : Int}, chainW a W b → ∀ v w, v ∈ W → w ∈ W → v.at_ ≤ q → q < v.at_ + v.width → w.at_ ≤ q → q < w.at_ + w.width → v = w
 | [], _, _, _, _, v, _, hv, _ => by simp at hv
 | u :: r, a, b, q, ⟨h1, h2, h3, h4⟩, v, w, hv, hw => by
  intro g1 g2 g3 g4
  rcases List.mem_cons.1 hv with e1 | hv2
  ·rcases List.mem_cons.1 hw with e2 | hw2
   ·rw [e1, e2]
   ·have := (chain_pos h4 w hw2).1
    rw [e1] at g1 g2
    omega
  ·rcases List.mem_cons.1 hw with e2 | hw2
   ·have := (chain_pos h4 v hv2).1
    rw [e2] at g3 g4
    omega
   ·exact chain_one h4 v w hv2 hw2 g1 g2 g3 g4
theorem chain_rise : ∀ {W : List WinR} {a b : Int}, chainW a W b → (W.map (·.at_)).Pairwise (· < ·)
 | [], _, _, _ => by simp
 | v :: r, a, b, ⟨h1, h2, h3, h4⟩ => by
  rw [List.map_cons]
  refine List.pairwise_cons.2 ⟨fun x hx => ?_, chain_rise h4⟩
  obtain ⟨w, hw, rfl⟩ := List.mem_map.1 hx
  have := (chain_pos h4 w hw).1
  show v.at_ < w.at_
  omega
theorem dvd_same {d x y : Int} (hx : d ∣ x) (hy : d ∣ y) (h1 : x ≤ y) (h2 : y < x + d) : x = y := by
 obtain ⟨k, hk⟩ := Int.dvd_sub hy hx
 by_cases c : k ≤ 0
 ·by_cases c0 : 0 < d
  ·have := Int.mul_nonneg (show 0 ≤ d by omega) (show 0 ≤ -k by omega)
   rw [Int.mul_neg] at this
   omega
  ·omega
 ·by_cases c0 : 0 < d
  ·have : d * 1 ≤ d * k := Int.mul_le_mul_of_nonneg_left (by omega) (by omega)
   omega
  ·omega
theorem blk_of {B p : Int} (hB : 0 < B) : B ∣ p - p % B ∧ p - p % B ≤ p ∧ p < p - p % B + B := by
 have h1 := Int.emod_nonneg p (show B ≠ 0 by omega)
 have h2 := Int.emod_lt_of_pos p hB
 refine ⟨?_, by omega, by omega⟩
 have h3 := Int.emod_add_mul_ediv p B
 exact ⟨p / B, by omega⟩
theorem blk_eq {B p q : Int} (hB : 0 < B) (hq : B ∣ q) (h1 : q ≤ p) (h2 : p < q + B) : p - p % B = q := by
 obtain ⟨g1, g2, g3⟩ := blk_of (p := p) hB
 by_cases c : p - p % B ≤ q
 ·exact dvd_same g1 hq c (by omega)
 ·exact (dvd_same hq g1 (by omega) (by omega)).symm
theorem greedy_count {fan a b : Int} (hfan : 2 ≤ fan ∧ fan ≤ 16) {W : List WinR} (hch : chainW a W b) (hgr : ∀ w, w ∈ W → GreedW fan b w) {v : WinR} (hv : v ∈ W) : ((W.filter fun w => decide (w.width = v.width)).length : Int) ≤ 2 * (fan - 1) := by
 obtain ⟨⟨k, hk⟩, _⟩ := hgr v hv
 have hV := wideN_pow hk
 have hfp : ∀ j : Nat, 0 < fan ^ j := fun j => Int.pow_pos (by omega)
 have hB : fan ^ (k + 1) = v.width * fan := by rw [Int.pow_succ, ← hV]
 have hV0 : 0 < v.width := by rw [hV]; exact hfp k
 have hB0 : 0 < v.width * fan := by rw [← hB]; exact hfp _
 have hVB : v.width ∣ v.width * fan := Int.dvd_mul_right ..
 have key : ∀ w, w ∈ W → w.width = v.width → w.at_ - w.at_ % (v.width * fan) < a ∨ b < w.at_ - w.at_ % (v.width * fan) + v.width * fan := by
  intro w hw hww
  obtain ⟨q1, q2, q3⟩ := blk_of (p := w.at_) hB0
  generalize w.at_ - w.at_ % (v.width * fan) = q at q1 q2 q3
  refine Classical.byContradiction fun hn => ?_
  have hn1 : a ≤ q := by omega
  have hn2 : q + v.width * fan ≤ b := by omega
  obtain ⟨u, hu, u1, u2⟩ := chain_cover hch hn1 (by omega)
  obtain ⟨⟨j, hj⟩, hmax⟩ := hgr u hu
  have hU := wideN_pow hj
  obtain ⟨_, p2, p3, p4⟩ := chain_pos hch u hu
  by_cases c : j ≤ k
  ·have hd : fan ^ j ∣ fan ^ (k + 1) := ipow_dvd _ (by omega)
   have hd1 : fan ^ (j + 1) ∣ fan ^ (k + 1) := ipow_dvd _ (by omega)
   have hle : fan ^ (j + 1) ≤ fan ^ (k + 1) := Int.le_of_dvd (hfp _) hd1
   rw [hB] at hd hd1 hle
   have e : u.at_ = q := dvd_same p4 (by rw [hU]; exact Int.dvd_trans hd q1) u1 u2
   rw [Int.pow_succ, ← hU] at hd1 hle
   exact hmax ⟨Int.tmod_eq_zero_of_dvd (by rw [e]; exact Int.dvd_trans hd1 q1), by omega⟩
  ·have hd : fan ^ (k + 1) ∣ fan ^ j := ipow_dvd _ (by omega)
   rw [hB, ← hU] at hd
   have h1 : v.width * fan ∣ u.at_ + u.width := (Int.dvd_add_right (Int.dvd_trans hd p4)).2 hd
   have h2 : q + v.width * fan ≤ u.at_ + u.width := by
    refine Classical.byContradiction fun hc => ?_
    have := dvd_same q1 h1 (by omega) (by omega)
    omega
   have e : w = u := chain_one (q := w.at_) hch w u hw hu (Int.le_refl _) (by rw [hww]; omega) (by omega) (by omega)
   subst e
   have hdd : v.width * fan ≤ v.width := by rw [← hww]; rw [hww] at hd ⊢; exact Int.le_of_dvd hV0 hd
   have : v.width * 2 ≤ v.width * fan := Int.mul_le_mul_of_nonneg_left hfan.1 (by omega)
   omega
 let S : List Int := ((List.range (fan - 1).toNat).map fun t : Nat => (a - a % (v.width * fan)) + v.width * ((t : Int) + 1)) ++ ((List.range (fan - 1).toNat).map fun t : Nat => (b - b % (v.width * fan)) + v.width * (t : Int))
 have hS : (S.length : Int) = 2 * (fan - 1) := by simp [S]; omega
 have hnd : ((W.filter fun w => decide (w.width = v.width)).map (·.at_)).Nodup := by
  have h1 : ((W.filter fun w => decide (w.width = v.width)).map (·.at_)).Sublist (W.map (·.at_)) := List.filter_sublist.map _
  exact List.Pairwise.imp (fun h => Int.ne_of_lt h) ((chain_rise hch).sublist h1)
 have hle := nodup_length_le hnd (b := S) fun x hx => by
  obtain ⟨w, hw, rfl⟩ := List.mem_map.1 hx
  obtain ⟨hw1, hw2⟩ := List.mem_filter.1 hw
  have hw2 : w.width = v.width := by simpa using hw2
  obtain ⟨p1, p2, p3, p4⟩ := chain_pos hch w hw1
  rw [hw2] at p2 p4
  obtain ⟨q1, q2, q3⟩ := blk_of (p := w.at_) hB0
  have hk := key w hw1 hw2
  generalize w.at_ - w.at_ % (v.width * fan) = q at q1 q2 q3 hk
  obtain ⟨t, ht⟩ := Int.dvd_sub p4 (Int.dvd_trans hVB q1)
  have ht0 : 0 ≤ t := by
   refine Classical.byContradiction fun hc => ?_
   have := Int.mul_le_mul_of_nonneg_left (show t ≤ -1 by omega) (show 0 ≤ v.width by omega)
   omega
  have htf : t < fan := by
   refine Classical.byContradiction fun hc => ?_
   have := Int.mul_le_mul_of_nonneg_left (show fan ≤ t by omega) (show 0 ≤ v.width by omega)
   omega
  rcases hk with hk | hk
  ·refine List.mem_append_left _ (List.mem_map.2 ⟨(t - 1).toNat, ?_, ?_⟩)
   ·rw [List.mem_range]
    have : t ≠ 0 := by rintro rfl; simp at ht; omega
    omega
   ·rw [blk_eq hB0 q1 (by omega) (by omega)]
    have : t ≠ 0 := by rintro rfl; simp at ht; omega
    rw [show (((t - 1).toNat : Nat) : Int) + 1 = t by omega]
    show q + v.width * t = w.at_
    omega
  ·refine List.mem_append_right _ (List.mem_map.2 ⟨t.toNat, ?_, ?_⟩)
   ·rw [List.mem_range]
    have : t < fan - 1 := by
     refine Classical.byContradiction fun hc => ?_
     have h1 := Int.mul_le_mul_of_nonneg_left (show fan - 1 ≤ t by omega) (show 0 ≤ v.width by omega)
     rw [Int.mul_sub, Int.mul_one] at h1
     omega
    omega
   ·rw [blk_eq hB0 q1 (by omega) (by omega), show ((t.toNat : Nat) : Int) = t by omega]
    show q + v.width * t = w.at_
    omega
 rw [List.length_map] at hle
 omega
theorem flat_told {G : RollF} {hG : RollG G} : ∀ {W : List WinR}, (∀ w, w ∈ W → ToldL (sumH G hG w.at_ (w.at_ + w.width)) (etP w.L)) → ∀ e, sumE (etP (W.flatMap (·.L))) e = gsum ((W.flatMap fun w => hrs w.at_ (w.at_ + w.width)).map fun h => gF G hG h e)
 | [], _, e => rfl
 | w :: r, ht, e => by
  rw [List.flatMap_cons, etP_append, sumE_append, told_sum (ht w (List.mem_cons_self ..)), flat_told fun v hv => ht v (List.mem_cons_of_mem _ hv), List.flatMap_cons, List.map_append, gsum_append]
  rfl
theorem winL_sum {G : RollF} {hG : RollG G} {w : Int} (hw : 1 ≤ w) {W : List WinR} (hl : WinL G w W) (ht : ∀ v, v ∈ W → ToldL (sumH G hG v.at_ (v.at_ + v.width)) (etP v.L)) : sumE (etP (W.flatMap (·.L))) = sumH G hG 0 2097152 := by
 funext e
 rw [flat_told ht]
 refine sumH_of G hG ?_ (fun x e hx => ?_) e
 ·-- nothing is there twice
  have hat : ∀ v, v ∈ W → w ∣ v.at_ := fun v hv => by
   obtain ⟨h, _, q2⟩ := (hl.mem v.at_).1 (List.mem_map.2 ⟨v, hv, rfl⟩)
   have := Int.tmod_add_mul_tdiv h w
   exact ⟨Int.tdiv h w, by omega⟩
  have hr := List.pairwise_map.1 hl.rise
  have hwd := hl.width
  clear hl ht
  induction W with
  | nil => simp
  | cons v r ih =>
   rw [List.flatMap_cons, List.nodup_append]
   have hr' := List.pairwise_cons.1 hr
   refine ⟨hrs_nodup _ _, ih (fun u hu => hat u (List.mem_cons_of_mem _ hu)) hr'.2 fun u hu => hwd u (List.mem_cons_of_mem _ hu), fun x hx y hy hxy => ?_⟩
   subst hxy
   obtain ⟨u, hu, hxu⟩ := List.mem_flatMap.1 hy
   have h1 := mem_hrs.1 hx
   have h2 := mem_hrs.1 hxu
   have h3 := hr'.1 u hu
   have h4 := hwd v (List.mem_cons_self ..)
   have := dvd_same (hat v (List.mem_cons_self ..)) (hat u (List.mem_cons_of_mem _ hu)) (by omega) (by omega)
   omega
 ·have hrg := hG.hour x e hx
  refine ⟨fun _ => hrg, fun _ => ?_⟩
  obtain ⟨v, hv, hva⟩ := List.mem_map.1 ((hl.mem (x - Int.tmod x w)).2 ⟨x, ⟨e, hx⟩, rfl⟩)
  have t1 := tmod_rng (h := x) (w := w) hrg.1 hw
  have t2 : Int.tmod x w < w := by
   rw [Int.tmod_eq_emod_of_nonneg hrg.1]
   exact Int.emod_lt_of_pos _ (by omega)
  exact List.mem_flatMap.2 ⟨v, hv, mem_hrs.2 ⟨by omega, by rw [hl.width v hv]; omega⟩⟩
theorem winL_ne {G : RollF} {hG : RollG G} {w : Int} (hw : 1 ≤ w) {W : List WinR} (hl : WinL G w W) {v : WinR} (hv : v ∈ W) (ht : ToldL (sumH G hG v.at_ (v.at_ + v.width)) (etP v.L)) : v.L ≠ [] := by
 obtain ⟨h, ⟨e, he⟩, q2⟩ := (hl.mem v.at_).1 (List.mem_map.2 ⟨v, hv, rfl⟩)
 have hrg := hG.hour h e he
 have t1 := tmod_rng (h := h) (w := w) hrg.1 hw
 have t2 : Int.tmod h w < w := by
  rw [Int.tmod_eq_emod_of_nonneg hrg.1]
  exact Int.emod_lt_of_pos _ (by omega)
 have hne : sumH G hG v.at_ (v.at_ + v.width) e ≠ .zero := fun h0 => by
  have := gsum_eq_zero h0 (gF G hG h e) (List.mem_map.2 ⟨h, mem_hrs.2 ⟨by omega, by rw [hl.width v hv]; omega⟩, rfl⟩)
  exact he (congrArg Subtype.val this)
 intro hnil
 have hm := (ht.mem e _).2 ⟨rfl, GT.val_ne.2 hne⟩
 rw [hnil] at hm
 simp [etP] at hm
end
end Go.Eng.S

namespace Go.Eng.S
open Go Go.Eng Go.Proofs
set_option linter.constructorNameAsVariable false
set_option maxRecDepth 4000
noncomputable section
attribute [local irreducible] bsel barsOf mergeB
theorem sz24w {k : Nat} (h : k ≤ 4194304) : (k + 1 + (k + 1) / 4 + 600) * 24 ≤ pow48 := by unfold pow48; omega
theorem sz24w' {k : Nat} (h : k ≤ 4194304) : k + 1 ≤ pow48 := by unfold pow48; omega
set_option maxHeartbeats 2000000 in
theorem RollupWide_ok {s : St} {fan a b : Int} {l : List PutR} {x : AV} (hx : Sl putE s x l) (hp : ∀ p, p ∈ l → FineP s p) (hlen : (l.length + 2 + (l.length + 2) / 4 + 600) * 104 ≤ pow48) :
  CallsA P F.spoorlaw15_RollupWide [.int .i64 fan, x, .int .i64 a, .int .i64 b] s fun v _ => v = .bool true := by
 have hbig : l.length < 4611686018427387904 := by unfold pow48 at hlen; omega
 refine vc.spoorlaw15_RollupWide_ok ((alive_ok s).mono ?_)
 rintro _ s2 ⟨rfl, rfl⟩
 refine ⟨true, rfl, (filled_ok (fan := fan) hx hp (by omega)).a.mono ?_⟩
 rintro v s5 ⟨⟨hv, f5⟩, hfr5⟩
 refine ⟨v, rfl, ?_⟩
 by_cases hfan : 2 ≤ fan ∧ fan ≤ 16
 ·rw [if_pos hfan] at hv
  obtain ⟨r, fp, rfl, hRO⟩ := hv
  have hR := hRO.roll
  have hG := hR.good
  have hE : ∀ h e, fillG zeroF l h e ≠ .zero → e ∈ l.map (·.edge) := fun h e hn => by
   rcases fillG_ne hn with h1 | h1
   ·exact absurd rfl h1
   ·exact h1
  have hb2 : ((l.map (·.edge)).length + 2 + ((l.map (·.edge)).length + 2) / 4 + 600) * 104 ≤ pow48 := sz_le (n := l.length) (by rw [List.length_map]; omega) (by omega) hlen
  have hb1 : ((l.map (·.edge)).length + 1 + ((l.map (·.edge)).length + 1) / 4 + 600) * 104 ≤ pow48 := sz_le (n := l.length) (by rw [List.length_map]; omega) (by omega) hlen
  have hE0 : (l.map (·.edge)).length < 4611686018427387904 := by rw [List.length_map]; exact hbig
  generalize l.map (·.edge) = E0 at hE hb2 hb1 hE0
  generalize fillG zeroF l = G at hR hG hE hRO
  refine bsel_of (fun c => by simp at c) fun _ => nilK_ptr (bsel_of (fun c => by simp at c) fun _ => ?_)
  refine (CoverM_ok hR hfan (a := a) (b := b) hE hb1).mono ?_
  rintro v8 s9 ⟨hv8, f9, hfr9⟩
  have hcov : ∃ x10 n11, v8 = .tuple [x10, .int .i64 n11] ∧ (n11 = 0 → ∃ W, WinS s5 s9 G hR.good x10 W ∧ chainW a W b ∧ (∀ w, w ∈ W → GreedW fan b w) ∧ rngOk a b = true) := by
   by_cases hrng : rngOk a b = true
   ·rw [if_pos hrng] at hv8
    obtain ⟨x, W, rfl, h1, h2, h3⟩ := hv8
    exact ⟨x, 0, rfl, fun _ => ⟨W, h1, h2, h3, hrng⟩⟩
   ·rw [if_neg hrng] at hv8
    exact ⟨_, _, hv8, fun h => by simp at h⟩
  obtain ⟨x10, n11, rfl, hcov⟩ := hcov
  refine ⟨x10, n11, rfl, fun s53 _ => Frw [] s5 s53 ∧ Fr s53, ?_, ?_⟩
  ·refine bsel_of (fun c => ?_) fun _ => ⟨0, f9, hfr9⟩
   obtain ⟨W, hW, hch, hgr, hrng⟩ := hcov (by simpa using c)
   have hrng' : 0 ≤ a ∧ a ≤ b ∧ b ≤ 2097152 := by simpa [rngOk, and_assoc] using hrng
   have hWl := chainW_len hch
   refine ⟨fun n15 s16 m => ∃ i : Nat, n15 = i ∧ m = W.length - i ∧ i ≤ W.length ∧ Frw [] s9 s16 ∧ Fr s16, ⟨_, 0, rfl, rfl, by omega, .refl _ _, hfr9⟩, ?_⟩
   rintro _ s16 m17 ⟨i, rfl, hm17, hi, f16, hfr16⟩
   have hW16 := (hW.ext f16).so.sl
   refine hW16.slen (bsel_of (fun cc => ?_) fun _ => ⟨0, f9.trans f16, hfr16⟩)
   have cc : i < W.length := by simpa using cc
   obtain ⟨⟨k, hk⟩, hmax⟩ := hgr _ (List.getElem_mem cc)
   obtain ⟨w1, w2, w3⟩ := wideN_some hfan hk
   have hp0 : 0 < 2 ^ k := Nat.pow_pos (by omega)
   obtain ⟨p1, p2, p3, p4⟩ := chain_pos hch _ (List.getElem_mem cc)
   have h9 : W[i].width * 2 ≤ W[i].width * fan := Int.mul_le_mul_of_nonneg_left hfan.1 (by omega)
   have h10 : W[i].width * fan ≤ W[i].width * 16 := Int.mul_le_mul_of_nonneg_left hfan.2 (by omega)
   refine hW16.ixs rfl rfl cc fun b1 o1 hR1 => ⟨_, hR1.ld1 1 rfl, fun c s32 _ => c = false ∧ s32 = s16, ?_, ?_⟩
   ·refine hW16.ixs rfl rfl cc fun b2 o2 hR2 => ⟨_, hR2.ld1 0 rfl, ?_⟩
    rw [wrap_i64 (a := W[i].width * fan) (by omega) (by omega)]
    refine ⟨by omega, bsel_of (fun c1 => ?_) fun _ => ⟨0, rfl, rfl⟩⟩
    have c1 : Int.tmod W[i].at_ (W[i].width * fan) = 0 := by simpa using c1
    refine hW16.ixs rfl rfl cc fun b3 o3 hR3 => ⟨_, hR3.ld1 0 rfl, 0, ?_, rfl⟩
    rw [wrap_i64 (a := W[i].at_ + W[i].width * fan) (by omega) (by omega)]
    simp only [decide_eq_false_iff_not]
    exact fun h => hmax ⟨c1, h⟩
   rintro _ _ _ ⟨rfl, rfl⟩
   refine bsel_of (fun c => by simp at c) fun _ => ?_
   have hcnt := greedy_count hfan hch hgr (List.getElem_mem cc)
   refine ⟨fun n36 n37 s38 m => ∃ k : Nat, n37 = k ∧ n36 = (((W.take k).filter fun w => decide (w.width = W[i].width)).length : Nat) ∧ m = W.length - k ∧ k ≤ W.length ∧ Frw [] s9 s38 ∧ Fr s38, ⟨_, 0, rfl, rfl, rfl, by omega, f16, hfr16⟩, ?_⟩
   rintro _ _ s38 m39 ⟨q, rfl, rfl, hm39, hq, f38, hfr38⟩
   have hW38 := (hW.ext f38).so.sl
   have hfl : ((W.take q).filter fun w => decide (w.width = W[i].width)).length ≤ q := by
    have h1 := List.length_filter_le (fun w : WinR => decide (w.width = W[i].width)) (W.take q)
    rw [List.length_take] at h1
    omega
   refine hW38.slen (bsel_of (fun c1 => ?_) fun c1 => ?_)
   ·have c1 : q < W.length := by simpa using c1
    intro s41 hB
    have f41 := f38.trans hB.fwd
    have hW41 := (hW.ext f41).so.sl
    have hst : (W.take (q + 1)).filter (fun w => decide (w.width = W[i].width)) = (W.take q).filter (fun w => decide (w.width = W[i].width)) ++ (if W[q].width = W[i].width then [W[q]] else []) := by
     rw [← List.take_append_getElem c1, List.filter_append]
     congr 1
     by_cases e : W[q].width = W[i].width
     ·rw [if_pos e, List.filter_cons_of_pos (by simpa using e), List.filter_nil]
     ·rw [if_neg e, List.filter_cons_of_neg (by simpa using e), List.filter_nil]
    refine hW41.ixs rfl rfl c1 fun b1 o1 hR1 => ⟨_, hR1.ld1 1 rfl, hW41.ixs rfl rfl cc fun b2 o2 hR2 => ⟨_, hR2.ld1 1 rfl, bsel_of (fun c2 => ?_) fun c2 => ?_⟩⟩
    ·have c2 : W[q].width = W[i].width := by simpa using c2
     refine ⟨W.length - (q + 1), by omega, q + 1, wr_succ (by omega), ?_, rfl, by omega, f41, hB.fr⟩
     rw [wr_succ (by omega), hst, if_pos c2, List.length_append, List.length_singleton]
    ·have c2 : ¬ W[q].width = W[i].width := by simpa using c2
     refine ⟨W.length - (q + 1), by omega, q + 1, wr_succ (by omega), ?_, rfl, by omega, f41, hB.fr⟩
     rw [hst, if_neg c2, List.append_nil]
   ·have c1 : q = W.length := by simp at c1; omega
    rw [c1, List.take_length]
    rw [wrap_i64 (a := fan - 1) (by omega) (by omega), wrap_i64 (a := 2 * (fan - 1)) (by omega) (by omega)]
    refine bsel_of (fun c2 => ?_) fun _ => ⟨W.length - (i + 1), by omega, i + 1, wr_succ (by omega), rfl, by omega, f38, hfr38⟩
    simp only [decide_eq_true_eq] at c2
    omega
  clear hcov hv8 f9 hfr9
  rintro s53 _ ⟨f53, hfr53⟩
  have hR53 := hR.ext f53
  refine (edges_ok hR53 (a := 0) (b := 2097152) hE hb1).mono ?_
  rintro x57 s56 ⟨⟨L57, k1, k2⟩, f56, hfr56⟩
  have e1 : sumR G hR53.good 0 2097152 = sumH G hR53.good 0 2097152 := funext fun e => if_pos (by simp [rngOk])
  rw [e1] at k2
  have hR56 := hR53.ext f56
  refine ⟨x57, rfl, fun n60 n61 c62 s63 m => ∃ k : Nat, n61 = k ∧ m = 30 - k ∧ k ≤ 22 ∧ ((c62 = true ∧ wideN fan k = some n60) ∨ (c62 = false ∧ wideN fan k = none)) ∧ Frw [] s56 s63 ∧ Fr s63, ⟨_, 0, rfl, rfl, by omega, .inl ⟨rfl, rfl⟩, .refl _ _, hfr56⟩, ?_⟩
  rintro n60 _ c62 s63 m64 ⟨k, rfl, hm64, hk, hc, f63, hfr63⟩
  have hwi : wideI fan (k : Int) = wideN fan k := by
   unfold wideI
   rw [if_neg (by omega), Int.toNat_natCast]
  have hR63 := hR56.ext f63
  rcases hc with ⟨rfl, hw⟩ | ⟨rfl, hw⟩
  ·refine bsel_of (fun _ => ?_) fun c => by simp at c
   obtain ⟨w1, w2, w3⟩ := wideN_some hfan hw
   have hp0 : 0 < 2 ^ k := Nat.pow_pos (by omega)
   refine (Windows_ok hR63 hfan (lev := (k : Int)) (by omega) hE hb1).mono ?_
   rintro _ s66 ⟨hwin, f66, hfr66⟩
   rw [hwi, hw] at hwin
   obtain ⟨x67, W, rfl, hW, hl⟩ := hwin
   have hWl : W.length ≤ 2097152 := by
    have hnd : (W.map (·.at_)).Nodup := List.Pairwise.imp (fun h => Int.ne_of_lt h) hl.rise
    have := nodup_length_le hnd (b := hrs 0 2097152) fun a hm => by
     obtain ⟨q, ⟨e, q1⟩, q2⟩ := (hl.mem a).1 hm
     have q3 := hG.hour q e q1
     have q4 := tmod_rng (h := q) (w := n60) q3.1 (by omega)
     exact mem_hrs.2 (by omega)
    rw [hrs_len, List.length_map] at this
    exact this
   have htold : ∀ w, w ∈ W → ToldL (sumH G hG w.at_ (w.at_ + w.width)) (etP w.L) := fun w hw => (hW.each w hw).2.2.2
   refine ⟨x67, 0, rfl, fun x71 n72 s73 m => ∃ i : Nat, n72 = i ∧ m = W.length - i ∧ i ≤ W.length ∧ So lsE s73 x71 ((W.take i).map fun w => (w.x, w.L)) ∧ (∀ c, c ∈ blkOf x71 → s66.h.get c = none) ∧ Frw [] s66 s73 ∧ Fr s73, ⟨_, 0, rfl, rfl, by omega, .nil _ _, by simp [blkOf], .refl _ _, hfr66⟩, ?_⟩
   rintro x71 _ s73 m74 ⟨i, rfl, hm74, hi, hso, hnew, f73, hfr73⟩
   refine (hW.ext f73).so.sl.slen (bsel_of (fun cc => ?_) fun cc => ?_)
   ·have cc : i < W.length := by simpa using cc
    have hLne := winL_ne (hG := hG) (by omega) hl (List.getElem_mem cc) (htold _ (List.getElem_mem cc))
    refine ⟨fun c s _ => c = false ∧ Frw [] s73 s ∧ Fr s, ?_, ?_⟩
    ·intro s77 hB
     have f77 := f73.trans hB.fwd
     have hW77 := hW.ext f77
     have hsl := hW77.so.sl
     have hwd := hl.width _ (List.getElem_mem cc)
     have hLi := (hW77.each _ (List.getElem_mem cc)).1
     have hlast : ∃ m, ((((W[i].L.length : Nat) : Int) == 0) = false) ∧ Frw [] s73 s77 ∧ Fr s77 ∧ m = 0 := ⟨0, by
      have : W[i].L.length ≠ 0 := fun h => hLne (List.length_eq_zero_iff.1 h)
      simpa using this, hB.fwd, hB.fr, rfl⟩
     obtain ⟨_, hl1, hl2, hl3, _⟩ := hlast
     refine hsl.ixs rfl rfl cc fun b1 o1 hR1 => ⟨_, hR1.ld1 1 rfl, bsel_of (fun c => by rw [hwd] at c; simp at c) fun _ => ?_⟩
     refine hsl.ixs rfl rfl cc fun b2 o2 hR2 => ⟨_, hR2.ld1 0 rfl, by omega, bsel_of (fun c => ?_) fun _ => ?_⟩
     ·obtain ⟨h, _, q2⟩ := (hl.mem W[i].at_).1 (List.mem_map.2 ⟨_, List.getElem_mem cc, rfl⟩)
      have h3 := Int.tmod_add_mul_tdiv h n60
      have : Int.tmod W[i].at_ n60 = 0 := Int.tmod_eq_zero_of_dvd ⟨Int.tdiv h n60, by omega⟩
      rw [this] at c; simp at c
     refine bsel_of (fun c => ?_) fun _ => ?_
     ·have c : 0 < i := by simp only [decide_eq_true_eq] at c; omega
      have hci : i - 1 < W.length := by omega
      have hlt : W[i - 1].at_ < W[i].at_ := by
       have hpw := List.pairwise_map.1 hl.rise
       rw [List.pairwise_iff_getElem] at hpw
       exact hpw (i - 1) i hci cc (by omega)
      refine hsl.ixs rfl (wr_pred c (by omega)) hci fun b3 o3 hR3 => ⟨_, hR3.ld1 0 rfl, hsl.ixs rfl rfl cc fun b4 o4 hR4 => ⟨_, hR4.ld1 0 rfl, bsel_of (fun c2 => ?_) fun _ => ?_⟩⟩
      ·simp only [decide_eq_true_eq] at c2; omega
      ·exact hsl.ixs rfl rfl cc fun b5 o5 hR5 => ⟨_, hR5.ld1 2 rfl, hLi.slen ⟨0, hl1, hl2, hl3⟩⟩
     ·exact hsl.ixs rfl rfl cc fun b5 o5 hR5 => ⟨_, hR5.ld1 2 rfl, hLi.slen ⟨0, hl1, hl2, hl3⟩⟩
    rintro _ s104 _ ⟨rfl, f104, hfr104⟩
    refine bsel_of (fun c => by simp at c) fun _ => ?_
    have f73' := f73.trans f104
    have hW104 := hW.ext f73'
    obtain ⟨j1, _, _, _⟩ := hW104.each _ (List.getElem_mem cc)
    refine hW104.so.sl.ixs rfl rfl cc fun b6 o6 hR6 => ⟨_, hR6.ld1 2 rfl, j1.one ?_⟩
    intro m109 s110 hN
    have f110 := f73'.trans hN.fwd
    have hlt : ((W.take i).map fun w => (w.x, w.L)).length ≤ 4194304 := by
     rw [List.length_map, List.length_take, Nat.min_eq_left hi]; omega
    obtain ⟨x111, s112, q1, q2, q3, q4, q5, q6⟩ := So.append' (a := ((W[i].x, W[i].L) : AV × List ET)) (hso.ext (f104.trans hN.fwd)) ty.sl_sl_api_EdgeTally rfl ty.sl_api_EdgeTally rfl rfl rfl (j1.onesx []) hN.own.rd rfl (sz24w hlt) (sz24w' hlt) hN.fr
    refine ⟨x111, s112, q1, W.length - (i + 1), by omega, i + 1, wr_succ (by omega), rfl, by omega, ?_, fun d hd => ?_, f110.step q3 hnew, q5⟩
    ·rw [← List.take_append_getElem cc, List.map_append]; exact q2
    ·rw [q4] at hd
     have : d = s110.nx := by simpa using hd
     rw [this]
     exact f110.none (hN.fr _ (Nat.le_refl _)) (by simp)
   ·have cc : i = W.length := by simp at cc; omega
    subst cc
    rw [List.take_length] at hso
    refine bsel_of (fun c => by simp at c) fun _ => ?_
    have hW73 := hW.ext f73
    have hXS : ∀ p, p ∈ W.map (fun w => (w.x, w.L)) → ∃ w, w ∈ W ∧ p = (w.x, w.L) := fun p hp => by
     obtain ⟨w, h1, h2⟩ := List.mem_map.1 hp
     exact ⟨w, h1, h2.symm⟩
    refine (Sum_ok hso.sl (fun p hp => ?_) (E0 := E0) (fun p hp => ?_) hb2 (by rw [List.length_map]; omega) (fun p hp => ?_)).a.mono ?_
    ·obtain ⟨w, h1, rfl⟩ := hXS p hp
     obtain ⟨k1, _, k3, k4⟩ := hW73.each w h1
     exact ⟨k1, told_fine k4 fun y hy => (k3 y hy).1⟩
    ·obtain ⟨w, h1, rfl⟩ := hXS p hp
     exact told_key (htold w h1) (sumH_ne (hG := hG) hE)
    ·obtain ⟨w, h1, rfl⟩ := hXS p hp
     have := told_lenS (htold w h1) (sumH_ne (hG := hG) hE)
     rw [etP_len] at this
     exact Nat.lt_of_le_of_lt this hE0
    rintro v114 s115 ⟨⟨⟨L3, m1, m2⟩, f115⟩, hfr115⟩
    refine ⟨v114, rfl, ?_⟩
    have hfl : (W.map fun w => (w.x, w.L)).flatMap (·.2) = W.flatMap (·.L) := by rw [List.flatMap_map]
    rw [hfl, winL_sum (by omega) hl htold] at m2
    have f115' := ((f63.trans f66).trans f73).trans f115
    have hx115 := k1.et.ext f115'
    have l3 := told_lenS m2 (sumH_ne (hG := hG) hE)
    rw [etP_len] at l3
    refine (SameEdges_ok m1.so.sl hx115.so.sl (fun y hy => (m1.bars y hy).1) (fun y hy => (hx115.bars y hy).1) (m2.unique k2) (by omega) (told_bars m2)).a.mono ?_
    rintro _ s118 ⟨⟨rfl, f118⟩, hfr118⟩
    have hnx : wideN fan (k + 1) = if 2097152 ≤ n60 then none else some (n60 * fan) := by simp only [wideN, hw]
    have h10 : n60 * fan ≤ n60 * 16 := Int.mul_le_mul_of_nonneg_left hfan.2 (by omega)
    have h9 : n60 * 2 ≤ n60 * fan := Int.mul_le_mul_of_nonneg_left hfan.1 (by omega)
    refine ⟨true, rfl, bsel_of (fun c => by simp at c) fun _ => ⟨30 - (k + 1), by omega, k + 1, wr_succ (by omega), rfl, by omega, ?_, f115'.trans f118, hfr118⟩⟩
    rw [hnx, wrap_i64 (a := n60 * fan) (by omega) (by omega)]
    by_cases cw : 2097152 ≤ n60
    ·rw [if_pos cw]; exact .inr ⟨by simp; omega, rfl⟩
    ·rw [if_neg cw]; exact .inl ⟨by simp; omega, rfl⟩
  ·refine bsel_of (fun c => by simp at c) fun _ => ?_
   refine (Windows_ok hR63 hfan (lev := (k : Int)) (by omega) hE hb1).mono ?_
   rintro _ s122 ⟨hwin, f122, hfr122⟩
   rw [hwi, hw] at hwin
   subst hwin
   refine ⟨_, _, rfl, (Windows_ok (hR63.ext f122) hfan (lev := -1) (by omega) hE hb1).mono ?_⟩
   rintro _ s126 ⟨hwin, f126, hfr126⟩
   rw [show wideI fan (-1) = none from if_pos (by omega)] at hwin
   subst hwin
   exact ⟨_, _, rfl, bsel_of (fun _ => rfl) fun c => by simp at c⟩
 ·rw [if_neg hfan] at hv
  subst hv
  refine bsel_of (fun c => by simp at c) fun _ => nilK_nilptr (bsel_of (fun _ => bsel_of (fun _ => bsel_of (fun _ => rfl) fun c1 => ?_) fun c => by simp at c) fun c => by simp at c)
  simp only [decide_eq_false_iff_not] at c1
  have : fan > 16 := by omega
  simp [this]
end
end Go.Eng.S

namespace Go.Eng.S
open Go Go.Eng Go.Proofs
noncomputable section
variable {H : Type} {enc : TypeId × Value → H} {w : World} {base : Nat} {held : Bool} {fuel : Nat}
theorem RollupWide_walk {fan a b : Int} {v : Value} {x : DataW H × List MemPlace} (h : DataW.trod enc P w base (fun _ => true) held fuel T.sl_spoorlaw15_Put [v] = some x) (hs : slcLen x.1 * 112 ≤ 140737488351232) :
  Calls P F.spoorlaw15_RollupWide #[.int .i64 fan, v, .int .i64 a, .int .i64 b] w fun e w' => e = .returned (.bool true) ∧ Kept w w' := by
 obtain ⟨y, l, h1, h2, h3, h4, _⟩ := puts_read h
 exact CallsA.top (RollupWide_ok h2 h3 (by unfold pow48; omega)) (.cons (.int _ _) (.cons (absV_ok h1) (.cons (.int _ _) (.cons (.int _ _) .nil))))
end
end Go.Eng.S

