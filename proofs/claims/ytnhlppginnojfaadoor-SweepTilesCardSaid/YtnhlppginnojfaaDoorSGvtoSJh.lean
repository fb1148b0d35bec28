/-
  A forest's spans, each ahead of those beneath it: each once. Plain.
  Trees: clips, who is last above, how one goes down, how many children there are. Plain.
  The chapter's example comes to true.
  The sweep: plain.
  The sweep: spans and their ends, the child that ended last.
  The sweep: the child that ended last; what a span is given.
  The sweep: a leg is put to the path.
  The sweep: back from a moment to a span's beginning.
  The sweep: a tree's path, a moment's owner.
  'SweepTiles': the legs of a root fill its interval.
  'SweepTiles': the law, its walk.
-/
import Derived.Test.YtnhlppginnojfaaDoorSGfto0
import Derived.Test.YtnhlppginnojfaaDoorSDefs
import Derived.Test.YtnhlppginnojfaaDoorW15to28
import Derived.Test.YtnhlppginnojfaaDoorSVsatoSVsd
set_option linter.unusedVariables false
set_option linter.unusedSimpArgs false
namespace Go.Eng.S
open Go Go.Eng Go.Proofs
set_option linter.constructorNameAsVariable false
noncomputable section
variable {S : FoD} {cs : List SpC}
theorem above_inner (hT : TreeI S) {i : Int} (hi : i ∈ S.N) (hg : (S.pl i).n.org = 0) : S.above i = (S.C i).par :: S.above (S.C i).par := by
 have h := ends_at (fun x y h => (upI_in (C := S.C) (g := fun i => (S.pl i).n.org) (N := S.N) x y h).2.2.2) (upI_acy fun x hx => hT.acy x hx) hi
 have hp := (hT.all i hi hg).1
 have hu : S.upO i = some (S.C i).par := by
  unfold FoD.upO upI upC
  rw [if_pos ⟨hi, hg⟩, if_pos hp]
 have h0 : 0 < S.N.length := List.length_pos_of_mem hi
 obtain ⟨k, hk⟩ : ∃ k, S.N.length = k + 1 := ⟨S.N.length - 1, by omega⟩
 unfold FoD.above
 rw [hk] at h ⊢
 have h2 : itU S.upO (k + 1) i = none := h
 simp only [itU, hu, Option.bind_some] at h2
 rw [abN_stable hT k _ h2 (k + 1) (by omega)]
 simp only [abN]
 rw [if_pos ⟨hi, hg⟩]
theorem above_root {i : Int} (hg : ¬ (i ∈ S.N ∧ (S.pl i).n.org = 0)) : S.above i = [] := by
 unfold FoD.above
 cases S.N.length with
 | zero => rfl
 | succ k => simp only [abN]; rw [if_neg hg]
theorem above_kid (hT : TreeI S) {i j : Int} (hi : i ∈ S.N) (hj : j ∈ S.kd i) : S.above j = i :: S.above i := by
 obtain ⟨h1, h2, h3⟩ := hT.kids i hi j hj
 rw [above_inner hT h1 h2, h3]
theorem abN_len {hT : TreeI S} : ∀ (k : Nat) (i : Int), itU S.upO k i = none → (abN S k i).length < k
 | 0, i, h => by simp [itU] at h
 | k + 1, i, h => by
  simp only [abN]
  by_cases hg : i ∈ S.N ∧ (S.pl i).n.org = 0
  ·rw [if_pos hg]
   have hp := (hT.all i hg.1 hg.2).1
   have hu : S.upO i = some (S.C i).par := by
    unfold FoD.upO upI upC
    rw [if_pos hg, if_pos hp]
   simp only [itU, hu, Option.bind_some] at h
   have := abN_len (hT := hT) k _ h
   simp only [List.length_cons]; omega
  ·rw [if_neg hg]; simp
theorem above_len (hT : TreeI S) {i : Int} (hi : i ∈ S.N) : (S.above i).length < S.N.length :=
 abN_len (hT := hT) _ _ (ends_at (fun x y h => (upI_in (C := S.C) (g := fun i => (S.pl i).n.org) (N := S.N) x y h).2.2.2) (upI_acy fun x hx => hT.acy x hx) hi)
theorem up_ind (hT : TreeI S) {Q : Int → Prop} (hr : ∀ i, i ∈ S.N → (S.pl i).n.org ≠ 0 → Q i) (hs : ∀ i, i ∈ S.N → (S.pl i).n.org = 0 → (S.C i).par ∈ S.N → Q (S.C i).par → Q i) {i : Int} (hi : i ∈ S.N) : Q i := by
 have key : ∀ (n : Nat) (i : Int), i ∈ S.N → (S.above i).length = n → Q i := by
  intro n
  induction n with
  | zero =>
   intro i hi hn
   by_cases hg : (S.pl i).n.org = 0
   ·rw [above_inner hT hi hg] at hn; simp at hn
   ·exact hr i hi hg
  | succ n ih =>
   intro i hi hn
   by_cases hg : (S.pl i).n.org = 0
   ·rw [above_inner hT hi hg] at hn
    have hp := (hT.all i hi hg).1
    exact hs i hi hg hp (ih _ hp (by simpa using hn))
   ·exact hr i hi hg
 exact key _ i hi rfl
theorem preN_up (hT : TreeI S) : ∀ (k : Nat) (l : List Int), (∀ i, i ∈ l → i ∈ S.N) → ∀ b, b ∈ preN S.kd k l → b ∈ S.N ∧ ∃ a, a ∈ l ∧ (a :: S.above a) <:+ (b :: S.above b)
 | 0, l, _, b, hb => by simp [preN] at hb
 | k + 1, l, hl, b, hb => by
  simp only [preN, List.mem_flatMap] at hb
  obtain ⟨a, ha, hb⟩ := hb
  rcases List.mem_cons.1 hb with rfl | hb
  ·exact ⟨hl b ha, b, ha, List.suffix_refl _⟩
  ·have haN := hl a ha
   obtain ⟨h1, j, hj, hs⟩ := preN_up hT k (S.kd a) (fun j hj => (hT.kids a haN j hj).1) b hb
   refine ⟨h1, a, ha, ?_⟩
   rw [above_kid hT haN hj] at hs
   exact (List.suffix_cons j _).trans hs
theorem nodup_fm {f : Int → List Int} : ∀ {l : List Int}, (∀ a, a ∈ l → (f a).Nodup) → l.Pairwise (fun a b => ∀ x, x ∈ f a → x ∈ f b → False) → (l.flatMap f).Nodup
 | [], _, _ => by simp
 | a :: r, h1, h2 => by
  obtain ⟨h3, h4⟩ := List.pairwise_cons.1 h2
  rw [List.flatMap_cons, List.nodup_append]
  refine ⟨h1 a (List.mem_cons_self ..), nodup_fm (fun b hb => h1 b (List.mem_cons_of_mem _ hb)) h4, fun x hx y hy e => ?_⟩
  subst e
  obtain ⟨b, hb, hxb⟩ := List.mem_flatMap.1 hy
  exact h3 b hb x hx hxb
theorem preN_nodup (hT : TreeI S) : ∀ (k : Nat) (l : List Int) (d : Nat), (∀ i, i ∈ l → i ∈ S.N ∧ (S.above i).length = d) → l.Nodup → (preN S.kd k l).Nodup
 | 0, l, d, _, _ => by simp [preN]
 | k + 1, l, d, hl, hnd => by
  simp only [preN]
  refine nodup_fm (fun a ha => ?_) ?_
  ·obtain ⟨haN, had⟩ := hl a ha
   refine List.nodup_cons.2 ⟨fun hm => ?_, preN_nodup hT k (S.kd a) (d + 1) (fun j hj => ⟨(hT.kids a haN j hj).1, by rw [above_kid hT haN hj]; simp [had]⟩) (hT.ndk a haN)⟩
   obtain ⟨_, j, hj, hs⟩ := preN_up hT k (S.kd a) (fun j hj => (hT.kids a haN j hj).1) a hm
   rw [above_kid hT haN hj] at hs
   have := hs.length_le
   simp at this
   omega
  ·refine (List.Pairwise.and_mem.1 hnd).imp fun {a b} h => ?_
   obtain ⟨ha, hb, hne⟩ := h
   obtain ⟨haN, had⟩ := hl a ha
   obtain ⟨hbN, hbd⟩ := hl b hb
   have key : ∀ {a x : Int}, a ∈ S.N → x ∈ a :: preN S.kd k (S.kd a) → (a :: S.above a) <:+ (x :: S.above x) := fun {a x} haN hx => by
    rcases List.mem_cons.1 hx with rfl | hx
    ·exact List.suffix_refl _
    ·obtain ⟨_, j, hj, hs⟩ := preN_up hT k (S.kd a) (fun j hj => (hT.kids a haN j hj).1) x hx
     rw [above_kid hT haN hj] at hs
     exact (List.suffix_cons j _).trans hs
   intro x hx hx'
   have s1 := key haN hx
   have s2 := key hbN hx'
   have := List.suffix_of_suffix_length_le s1 s2 (by simp [had, hbd])
   have e := this.eq_of_length (by simp [had, hbd])
   exact hne (List.cons.inj e).1
theorem preN_mono : ∀ (k : Nat) (l : List Int) (b : Int), b ∈ preN S.kd k l → b ∈ preN S.kd (k + 1) l
 | 0, l, b, h => by simp [preN] at h
 | k + 1, l, b, h => by
  simp only [preN, List.mem_flatMap] at h
  obtain ⟨a, ha, hb⟩ := h
  rw [show preN S.kd (k + 1 + 1) l = l.flatMap fun i => i :: preN S.kd (k + 1) (S.kd i) from rfl, List.mem_flatMap]
  refine ⟨a, ha, ?_⟩
  rcases List.mem_cons.1 hb with rfl | hb
  ·exact List.mem_cons_self ..
  ·exact List.mem_cons_of_mem _ (preN_mono k _ b hb)
theorem preN_kid : ∀ (k : Nat) (l : List Int) (p j : Int), p ∈ preN S.kd k l → j ∈ S.kd p → j ∈ preN S.kd (k + 1) l
 | 0, l, p, j, h, _ => by simp [preN] at h
 | k + 1, l, p, j, h, hj => by
  simp only [preN, List.mem_flatMap] at h
  obtain ⟨a, ha, hb⟩ := h
  rw [show preN S.kd (k + 1 + 1) l = l.flatMap fun i => i :: preN S.kd (k + 1) (S.kd i) from rfl, List.mem_flatMap]
  refine ⟨a, ha, List.mem_cons_of_mem _ ?_⟩
  rcases List.mem_cons.1 hb with rfl | hb
  ·simp only [preN, List.mem_flatMap]
   exact ⟨j, hj, List.mem_cons_self ..⟩
  ·exact preN_kid k _ p j hb hj
theorem preN_le {k m : Nat} {l : List Int} {b : Int} (h : b ∈ preN S.kd k l) (hm : k ≤ m) : b ∈ preN S.kd m l := by
 induction hm with
 | refl => exact h
 | step _ ih => exact preN_mono _ _ _ ih
theorem Srt.nodup {T : Int → Tv} {l : List Int} (h : Srt T l) : l.Nodup := by
 refine List.Pairwise.imp (fun {a b} hab => ?_) h
 rintro rfl
 unfold ltT at hab
 omega
theorem order_perm (hS : ForS cs S) (hnd : S.N.Nodup) : S.order.Perm S.N := by
 have hT := hS.kids
 have hr : ∀ i, i ∈ S.rl → i ∈ S.N ∧ (S.above i).length = 0 := fun i hi => by
  obtain ⟨h1, h2⟩ := (hS.rts i).1 hi
  exact ⟨h1, by rw [above_root fun h => h2 h.2]; rfl⟩
 have h1 : S.order.Nodup := preN_nodup hT _ _ 0 hr hS.rsrt.nodup
 refine (List.perm_ext_iff_of_nodup h1 hnd).2 fun b => ⟨fun hb => (preN_up hT _ _ (fun i hi => (hr i hi).1) b hb).1, fun hb => ?_⟩
 have key : b ∈ preN S.kd ((S.above b).length + 1) S.rl := by
  refine up_ind (Q := fun b => b ∈ preN S.kd ((S.above b).length + 1) S.rl) hT (fun i hi hg => ?_) (fun i hi hg hp ih => ?_) hb
  ·rw [above_root fun h => hg h.2]
   simp only [List.length_nil, preN, List.mem_flatMap]
   exact ⟨i, (hS.rts i).2 ⟨hi, hg⟩, List.mem_cons_self ..⟩
  ·rw [above_inner hT hi hg]
   exact preN_kid _ _ _ i ih (hT.all i hi hg).2
 exact preN_le key (above_len hT hb)
end
end Go.Eng.S

namespace Go.Eng.S
open Go Go.Eng Go.Proofs
set_option linter.constructorNameAsVariable false
noncomputable section
def mx2 (a b : Int) : Int := if b > a then b else a
def mn2 (a b : Int) : Int := if b < a then b else a
def foldN (g : Int → Int → Int) (f : Int → Int) : List Int → Int
 | [] => 0
 | [a] => f a
 | a :: b :: r => g (f a) (foldN g f (b :: r))
variable {cs : List SpC} {S : FoD}
theorem ForS.acy (hS : ForS cs S) : (∀ i, i ∈ S.N → orgC S.C S.N i = 0 → (S.C i).par ∈ S.N) ∧ ∀ x, Ring (upC S.C S.N) x → ∃ y, Reach (upC S.C S.N) x y ∧ orgC S.C S.N y ≠ 0 := by
 refine ⟨fun i hi hg => (hS.kids.all i hi (by rw [hS.org i hi]; exact hg)).1, fun x hx => ?_⟩
 obtain ⟨y, y1, y2⟩ := hS.kids.acy x hx
 have hy : y ∈ S.N := by
  have hxN : x ∈ S.N := by
   obtain ⟨z, hz, hr⟩ := Ring.iff.1 hx
   exact closed_reach (U := upC S.C S.N) (M := fun a => a ∈ S.N) (fun a b _ h => upC_in a b h) (upC_in x z hz) hr
  exact closed_reach (U := upC S.C S.N) (M := fun a => a ∈ S.N) (fun a b _ h => upC_in a b h) hxN y1
 exact ⟨y, y1, by rw [← hS.org y hy]; exact y2⟩
theorem node_root (hS : ForS cs S) {i : Int} (hi : i ∈ S.N) (hg : (S.pl i).n.org ≠ 0) : (S.pl i).n.tv = rootT S.C i := by
 rw [hS.tv i hi, tvOf_root (by rw [← hS.org i hi]; exact hg)]
theorem node_step (hS : ForS cs S) {i : Int} (hi : i ∈ S.N) (hg : (S.pl i).n.org = 0) : (S.pl i).n.tv = stepT (S.C i) (S.pl (S.C i).par).n.tv := by
 obtain ⟨h1, h2⟩ := hS.acy
 rw [hS.tv i hi, tvOf_step h1 h2 hi (by rw [← hS.org i hi]; exact hg), hS.tv _ (hS.kids.all i hi hg).1]
theorem tree_last (hS : ForS cs S) {i : Int} (hi : i ∈ S.N) (hg : (S.pl i).n.org = 0) : (S.above i).getLast? = some (S.pl i).n.tree ∧ (S.pl i).n.tree = (S.pl (S.C i).par).n.tree := by
 have hst : ∀ i, i ∈ S.N → (S.pl i).n.org = 0 → (S.pl i).n.tree = (S.pl (S.C i).par).n.tree := fun i hi hg => congrArg Tv.tree (node_step hS hi hg)
 refine ⟨?_, hst i hi hg⟩
 have key : (S.pl i).n.org = 0 → (S.above i).getLast? = some (S.pl i).n.tree := by
  refine up_ind (Q := fun i => (S.pl i).n.org = 0 → (S.above i).getLast? = some (S.pl i).n.tree) hS.kids (fun i hi hg h => absurd h hg) (fun i hi hg hp ih _ => ?_) hi
  rw [above_inner hS.kids hi hg, hst i hi hg]
  by_cases h2 : (S.pl (S.C i).par).n.org = 0
  ·have := ih h2
   cases hA : S.above (S.C i).par with
   | nil => rw [hA] at this; simp at this
   | cons a r => rw [hA] at this; rw [List.getLast?_cons_cons]; exact this
  ·rw [above_root fun h => h2 h.2]
   have : (S.pl (S.C i).par).n.tree = (S.C i).par := congrArg Tv.tree (node_root hS hp h2)
   rw [this]; rfl
 exact key hg
def cFrom (S : FoD) (i : Int) : Int := foldN mx2 (fun a => (S.C a).t0) (i :: S.above i)
def cTo (S : FoD) (i : Int) : Int := foldN mn2 (fun a => (S.C a).t1) (i :: S.above i)
theorem clip_step {a b PF PT cF cT : Int} (h0 : a ≤ b) (hp : (cF < cT ∧ PF = cF ∧ PT = cT) ∨ (cT ≤ cF ∧ PF = PT)) :
  (clipI a b PF PT).1 ≤ (clipI a b PF PT).2 ∧ (mx2 a cF < mn2 b cT → (clipI a b PF PT).1 = mx2 a cF ∧ (clipI a b PF PT).2 = mn2 b cT) ∧ (mn2 b cT ≤ mx2 a cF → (clipI a b PF PT).1 = (clipI a b PF PT).2) ∧ PF ≤ (clipI a b PF PT).1 ∧ (clipI a b PF PT).2 ≤ PT := by
 rcases hp with ⟨p1, rfl, rfl⟩ | ⟨p1, rfl⟩
 ·have hc : ¬ PT ≤ PF := by omega
  have m1 : mx2 a PF = if PF > a then PF else a := rfl
  have m2 : mn2 b PT = if PT < b then PT else b := rfl
  have i1 : ∀ v, (v ≤ PF → intoI v PF PT = PF) ∧ (PF ≤ v ∧ v ≤ PT → intoI v PF PT = v) ∧ (PT ≤ v → intoI v PF PT = PT) := fun v => by
   unfold intoI
   refine ⟨fun h => ?_, fun h => ?_, fun h => ?_⟩ <;> (repeat' split) <;> omega
  have ha := i1 a
  have hb := i1 b
  unfold clipI
  rw [if_neg hc]
  by_cases hab : b ≤ a
  ·rw [if_pos hab]
   simp only
   rcases Int.le_total a PF with q | q
   ·rw [ha.1 q]
    refine ⟨by omega, fun h => ?_, fun _ => trivial, by omega, by omega⟩
    rw [m1, m2] at h
    split at h <;> split at h <;> omega
   ·rcases Int.le_total a PT with q2 | q2
    ·rw [ha.2.1 ⟨q, q2⟩]
     refine ⟨by omega, fun h => ?_, fun _ => trivial, by omega, by omega⟩
     rw [m1, m2] at h
     split at h <;> split at h <;> omega
    ·rw [ha.2.2 q2]
     refine ⟨by omega, fun h => ?_, fun _ => trivial, by omega, by omega⟩
     rw [m1, m2] at h
     split at h <;> split at h <;> omega
  ·rw [if_neg hab]
   simp only
   rcases Int.le_total a PF with q | q
   ·rw [ha.1 q]
    rcases Int.le_total b PF with r | r
    ·rw [hb.1 r]
     refine ⟨by omega, fun h => ?_, fun _ => rfl, by omega, by omega⟩
     rw [m1, m2] at h
     split at h <;> split at h <;> omega
    ·rcases Int.le_total b PT with r2 | r2
     ·rw [hb.2.1 ⟨r, r2⟩, m1, m2]
      refine ⟨by omega, fun h => ?_, fun h => ?_, by omega, by omega⟩
      ·constructor <;> (split <;> omega)
      ·split at h <;> split at h <;> omega
     ·rw [hb.2.2 r2, m1, m2]
      refine ⟨by omega, fun h => ?_, fun h => ?_, by omega, by omega⟩
      ·constructor <;> (split <;> omega)
      ·split at h <;> split at h <;> omega
   ·rcases Int.le_total a PT with q2 | q2
    ·rw [ha.2.1 ⟨q, q2⟩]
     rcases Int.le_total b PT with r2 | r2
     ·rw [hb.2.1 ⟨by omega, r2⟩, m1, m2]
      refine ⟨by omega, fun h => ?_, fun h => ?_, by omega, by omega⟩
      ·constructor <;> (split <;> omega)
      ·split at h <;> split at h <;> omega
     ·rw [hb.2.2 r2, m1, m2]
      refine ⟨by omega, fun h => ?_, fun h => ?_, by omega, by omega⟩
      ·constructor <;> (split <;> omega)
      ·split at h <;> split at h <;> omega
    ·rw [ha.2.2 q2, hb.2.2 (by omega)]
     refine ⟨by omega, fun h => ?_, fun _ => rfl, by omega, by omega⟩
     rw [m1, m2] at h
     split at h <;> split at h <;> omega
 ·unfold clipI
  rw [if_pos (Int.le_refl _)]
  refine ⟨Int.le_refl _, fun h => ?_, fun _ => rfl, Int.le_refl _, Int.le_refl _⟩
  unfold mx2 mn2 at h
  split at h <;> split at h <;> omega
theorem clip_in (hS : ForS cs S) (ht : ∀ i, i ∈ S.N → (S.C i).t0 ≤ (S.C i).t1) {i : Int} (hi : i ∈ S.N) :
  (S.pl i).n.fr ≤ (S.pl i).n.till ∧ (cFrom S i < cTo S i → (S.pl i).n.fr = cFrom S i ∧ (S.pl i).n.till = cTo S i) ∧ (cTo S i ≤ cFrom S i → (S.pl i).n.fr = (S.pl i).n.till) ∧
   ((S.pl i).n.org = 0 → (S.pl (S.C i).par).n.fr ≤ (S.pl i).n.fr ∧ (S.pl i).n.till ≤ (S.pl (S.C i).par).n.till) := by
 refine up_ind (Q := fun i => (S.pl i).n.fr ≤ (S.pl i).n.till ∧ (cFrom S i < cTo S i → (S.pl i).n.fr = cFrom S i ∧ (S.pl i).n.till = cTo S i) ∧ (cTo S i ≤ cFrom S i → (S.pl i).n.fr = (S.pl i).n.till) ∧
   ((S.pl i).n.org = 0 → (S.pl (S.C i).par).n.fr ≤ (S.pl i).n.fr ∧ (S.pl i).n.till ≤ (S.pl (S.C i).par).n.till)) hS.kids (fun i hi hg => ?_) (fun i hi hg hp ih => ?_) hi
 ·have e := node_root hS hi hg
  have e1 : (S.pl i).n.fr = (S.C i).t0 := congrArg Tv.fr e
  have e2 : (S.pl i).n.till = (S.C i).t1 := congrArg Tv.till e
  have ea : S.above i = [] := above_root fun h => hg h.2
  have e3 : cFrom S i = (S.C i).t0 := by unfold cFrom; rw [ea]; rfl
  have e4 : cTo S i = (S.C i).t1 := by unfold cTo; rw [ea]; rfl
  have := ht i hi
  rw [e1, e2, e3, e4]
  exact ⟨this, fun _ => ⟨rfl, rfl⟩, fun h => by omega, fun h => absurd h hg⟩
 ·have e := node_step hS hi hg
  have e1 : (S.pl i).n.fr = (clipI (S.C i).t0 (S.C i).t1 (S.pl (S.C i).par).n.fr (S.pl (S.C i).par).n.till).1 := congrArg Tv.fr e
  have e2 : (S.pl i).n.till = (clipI (S.C i).t0 (S.C i).t1 (S.pl (S.C i).par).n.fr (S.pl (S.C i).par).n.till).2 := congrArg Tv.till e
  have ea := above_inner hS.kids hi hg
  have e3 : cFrom S i = mx2 (S.C i).t0 (cFrom S (S.C i).par) := by unfold cFrom; rw [ea]; rfl
  have e4 : cTo S i = mn2 (S.C i).t1 (cTo S (S.C i).par) := by unfold cTo; rw [ea]; rfl
  have h0 := ht i hi
  obtain ⟨k1, k2, k3, _⟩ := ih
  rw [e1, e2, e3, e4]
  generalize (S.pl (S.C i).par).n.fr = PF at *
  generalize (S.pl (S.C i).par).n.till = PT at *
  generalize cFrom S (S.C i).par = cF at *
  generalize cTo S (S.C i).par = cT at *
  generalize (S.C i).t0 = a at *
  generalize (S.C i).t1 = b at *
  clear e e1 e2 e3 e4 ea hi hg hp
  have hP : (cF < cT ∧ PF = cF ∧ PT = cT) ∨ (cT ≤ cF ∧ PF = PT) := by
   by_cases h : cF < cT
   ·exact .inl ⟨h, k2 h⟩
   ·exact .inr ⟨by omega, k3 (by omega)⟩
  obtain ⟨r1, r2, r3, r4, r5⟩ := clip_step h0 hP
  exact ⟨r1, r2, r3, fun _ => ⟨r4, r5⟩⟩
end
end Go.Eng.S

namespace Go.Eng.S
open Go Go.Eng Go.Proofs
noncomputable section
set_option maxRecDepth 1000000 in
theorem alive_comes : closedF D 1000000 F.spoorlaw12_alive = true := by kernel_rfl
theorem alive_walk (w : World) : Calls P F.spoorlaw12_alive #[] w fun e w' => e = .returned (.bool true) ∧ Kept w w' := closed_ok hD mixes ((closedF_eq D 1000000 F.spoorlaw12_alive).symm.trans alive_comes) w
theorem alive_ok (s : St) : CallsA P F.spoorlaw12_alive [] s fun v s' => v = .bool true ∧ s' = s := CallsA.closed alive_walk s
end
end Go.Eng.S

namespace Go.Eng.S
open Go Go.Eng Go.Proofs
set_option linter.constructorNameAsVariable false
noncomputable section
variable {S : FoD} {cs : List SpC}
def szO (S : FoD) (i : Int) : Nat := 1 + (preN S.kd (S.N.length - 1 - (S.above i).length) (S.kd i)).length
theorem szO_kids (hT : TreeI S) {i : Int} (hi : i ∈ S.N) : szO S i = 1 + ((S.kd i).map (szO S)).sum := by
 unfold szO
 congr 1
 by_cases hk : S.kd i = []
 ·rw [hk]
  cases S.N.length - 1 - (S.above i).length <;> rfl
 ·obtain ⟨c, r, hc⟩ : ∃ c r, S.kd i = c :: r := by
   cases h : S.kd i with
   | nil => exact absurd h hk
   | cons c r => exact ⟨c, r, rfl⟩
  have hcm : c ∈ S.kd i := by rw [hc]; exact List.mem_cons_self ..
  have h1 := above_kid hT hi hcm
  have h2 := above_len hT (hT.kids i hi c hcm).1
  rw [h1, List.length_cons] at h2
  obtain ⟨k, hk⟩ : ∃ k, S.N.length - 1 - (S.above i).length = k + 1 := ⟨S.N.length - 1 - (S.above i).length - 1, by omega⟩
  rw [hk]
  show ((S.kd i).flatMap fun j => j :: preN S.kd k (S.kd j)).length = _
  rw [List.length_flatMap]
  congr 1
  refine List.map_congr_left fun j hj => ?_
  have h3 := above_kid hT hi hj
  rw [h3, List.length_cons, List.length_cons]
  rw [show S.N.length - 1 - ((S.above i).length + 1) = k by omega]
  omega
theorem szO_root (hS : ForS cs S) (hnd : S.N.Nodup) {r : Int} (hr : r ∈ S.rl) : szO S r ≤ S.N.length := by
 have hrN := (hS.rts r).1 hr
 have ha : S.above r = [] := above_root fun h => hrN.2 h.2
 rw [← (order_perm hS hnd).length_eq]
 have hl := above_len hS.kids hrN.1
 obtain ⟨k, hk⟩ : ∃ k, S.N.length = k + 1 := ⟨S.N.length - 1, by omega⟩
 unfold szO FoD.order
 rw [ha, hk]
 show 1 + (preN S.kd k (S.kd r)).length ≤ (S.rl.flatMap fun j => j :: preN S.kd k (S.kd j)).length
 rw [List.length_flatMap]
 have key : ∀ (l : List Int), r ∈ l → (r :: preN S.kd k (S.kd r)).length ≤ (l.map fun j => (j :: preN S.kd k (S.kd j)).length).sum := by
  intro l
  induction l with
  | nil => intro h; simp at h
  | cons a t ih =>
   intro h
   rw [List.map_cons, List.sum_cons]
   rcases List.mem_cons.1 h with rfl | h
   ·omega
   ·have := ih h; omega
 have := key _ hr
 simp only [List.length_cons] at this ⊢
 omega
def ahead (S : FoD) (t : Int) (l : List Int) : Nat := ((l.filter fun c => decide ((S.pl c).n.fr < t)).map (szO S)).sum
theorem ahead_le {t : Int} : ∀ (l : List Int), ahead S t l ≤ (l.map (szO S)).sum
 | [] => by simp [ahead]
 | a :: l => by
  have := ahead_le (t := t) l
  unfold ahead at this ⊢
  rw [List.filter_cons]
  split <;> simp only [List.map_cons, List.sum_cons] <;> omega
theorem ahead_mono {t u : Int} (h : u ≤ t) : ∀ (l : List Int), ahead S u l ≤ ahead S t l
 | [] => by simp [ahead]
 | a :: l => by
  have := ahead_mono h l
  unfold ahead at this ⊢
  rw [List.filter_cons, List.filter_cons]
  by_cases h1 : (S.pl a).n.fr < u
  ·have h2 : (S.pl a).n.fr < t := by omega
   rw [if_pos (by simpa using h1), if_pos (by simpa using h2), List.map_cons, List.sum_cons, List.map_cons, List.sum_cons]; omega
  ·rw [if_neg (by simpa using h1)]
   split
   ·rw [List.map_cons, List.sum_cons]; omega
   ·exact this
theorem ahead_less {t : Int} {c : Int} (hf : (S.pl c).n.fr < t) : ∀ {l : List Int}, c ∈ l → ahead S (S.pl c).n.fr l + szO S c ≤ ahead S t l
 | [], h => by simp at h
 | a :: l, h => by
  have hm := ahead_mono (S := S) (Int.le_of_lt hf) l
  rcases List.mem_cons.1 h with rfl | h
  ·unfold ahead at hm ⊢
   rw [List.filter_cons, List.filter_cons, if_neg (by simp), if_pos (by simpa using hf), List.map_cons, List.sum_cons]; omega
  ·have ih := ahead_less hf h
   unfold ahead at ih ⊢
   rw [List.filter_cons, List.filter_cons]
   by_cases h1 : (S.pl a).n.fr < (S.pl c).n.fr
   ·have h2 : (S.pl a).n.fr < t := by omega
    rw [if_pos (by simpa using h1), if_pos (by simpa using h2), List.map_cons, List.sum_cons, List.map_cons, List.sum_cons]; omega
   ·rw [if_neg (by simpa using h1)]
    split
    ·rw [List.map_cons, List.sum_cons]; omega
    ·exact ih
structure LegC where
 own : Int
 fr : Int
 up : Int
def LegC.cells (a : LegC) : List AV := [.int .u64 a.own, .int .i64 a.fr, .int .i64 a.up]
def legE : Enc LegC := ⟨LegC.cells, 3, by decide, fun _ => rfl⟩
structure LegOk (S : FoD) (T : Int) (a : LegC) : Prop where
 own : a.own ∈ S.N
 tree : (S.pl a.own).n.tree = T
 lt : a.fr < a.up
 fr : (S.pl a.own).n.fr ≤ a.fr
 up : a.up ≤ (S.pl a.own).n.till
 free : ∀ c, c ∈ S.kd a.own → (S.pl c).n.fr < (S.pl c).n.till → ¬ ((S.pl c).n.fr < a.up ∧ a.fr < (S.pl c).n.till)
structure Tile (S : FoD) (T hi lo : Int) (L : List LegC) : Prop where
 ok : ∀ a, a ∈ L → LegOk S T a
 nil : L = [] → lo = hi
 first : ∀ h : 0 < L.length, L[0].up = hi
 last : ∀ (k : Nat) (h : k < L.length), k + 1 = L.length → L[k].fr = lo
 adj : ∀ (k : Nat) (h : k + 1 < L.length), L[k].fr = L[k + 1].up ∧ L[k].own ≠ L[k + 1].own
theorem Tile.new {T hi : Int} : Tile S T hi hi [] :=
 ⟨fun a h => by simp at h, fun _ => rfl, fun h => by simp at h, fun k h => by simp at h, fun k h => by simp at h⟩
theorem Tile.push {T hi lo : Int} {L : List LegC} (h : Tile S T hi lo L) {a : LegC} (ha : LegOk S T a) (ht : a.up = lo) (hne : ∀ (k : Nat) (h : k < L.length), k + 1 = L.length → L[k].own ≠ a.own) : Tile S T hi a.fr (L ++ [a]) where
 ok := fun b hb => by
  rcases List.mem_append.1 hb with hb | hb
  ·exact h.ok b hb
  ·rw [List.mem_singleton.1 hb]; exact ha
 nil := fun e => by simp at e
 first := fun _ => by
  rcases L with _ | ⟨b, L⟩
  ·show a.up = hi
   rw [ht]; exact h.nil rfl
  ·exact h.first (by simp)
 last := fun k hk e => by
  have : k = L.length := by simp at e; omega
  subst this
  simp
 adj := fun k hk => by
  have hk' : k < L.length := by simp at hk; omega
  rw [List.getElem_append_left hk']
  by_cases e : k + 1 = L.length
  ·rw [List.getElem_append_right (by omega)]
   simp only [e, Nat.sub_self, List.getElem_cons_zero]
   exact ⟨by rw [h.last k hk' e, ht], hne k hk' e⟩
  ·have hk2 : k + 1 < L.length := by omega
   rw [List.getElem_append_left hk2]
   exact h.adj k hk2
theorem Tile.merge {T hi lo x : Int} {L : List LegC} (h : Tile S T hi lo L) {k : Nat} (hk : k < L.length) (he : k + 1 = L.length) (hw : LegOk S T ⟨L[k].own, x, lo⟩) : Tile S T hi x (L.set k { L[k] with fr := x }) where
 ok := fun b hb => by
  rcases List.mem_or_eq_of_mem_set hb with hb | rfl
  ·exact h.ok b hb
  ·have h1 := h.ok L[k] (List.getElem_mem hk)
   have h2 := h.last k hk he
   refine ⟨h1.own, h1.tree, ?_, hw.fr, h1.up, fun c hc hlt => ?_⟩
   ·have := h1.lt; have := hw.lt
    show x < L[k].up
    simp only at *
    omega
   ·have f1 := h1.free c hc hlt
    have f2 := hw.free c hc hlt
    simp only at f2 ⊢
    rw [h2] at f1
    omega
 nil := fun e => by
  rw [List.set_eq_nil_iff] at e
  rw [e] at hk; simp at hk
 first := fun h0 => by
  rw [List.getElem_set]
  split
  ·rename_i e
   subst e
   exact h.first (by simpa using h0)
  ·exact h.first (by simpa using h0)
 last := fun j hj e => by
  have : j = k := by simp at e; omega
  subst this
  rw [List.getElem_set_self]
 adj := fun j hj => by
  have hj' : j + 1 < L.length := by simpa using hj
  have ha := h.adj j hj'
  rw [List.getElem_set, List.getElem_set, if_neg (by omega)]
  split
  ·rename_i e
   subst e
   exact ha
  ·exact ha
end
end Go.Eng.S

namespace Go.Eng.S
open Go Go.Eng Go.Proofs
set_option linter.constructorNameAsVariable false
noncomputable section
attribute [local irreducible] bsel
def NdB (S : FoD) : Prop := ∀ i, i ∈ S.N → 0 ≤ (S.pl i).n.fr ∧ (S.pl i).n.fr ≤ (S.pl i).n.till ∧ (S.pl i).n.till ≤ 4611686018427387904
theorem ndb_of {S : FoD} {cs : List SpC} (hS : ForS cs S) (ht : ∀ i, i ∈ S.N → 0 ≤ (S.C i).t0 ∧ (S.C i).t0 ≤ (S.C i).t1 ∧ (S.C i).t1 ≤ 4611686018427387904) : NdB S := by
 intro i hi
 refine up_ind (Q := fun i => 0 ≤ (S.pl i).n.fr ∧ (S.pl i).n.fr ≤ (S.pl i).n.till ∧ (S.pl i).n.till ≤ 4611686018427387904) hS.kids (fun i hi hg => ?_) (fun i hi hg hp ih => ?_) hi
 ·have e := node_root hS hi hg
  have e1 : (S.pl i).n.fr = (S.C i).t0 := congrArg Tv.fr e
  have e2 : (S.pl i).n.till = (S.C i).t1 := congrArg Tv.till e
  rw [e1, e2]; exact ht i hi
 ·have hc := clip_in hS (fun i hi => (ht i hi).2.1) hi
  have := hc.2.2.2 hg
  have := hc.1
  omega
theorem Length_ok (a b : Int) (ha : 0 ≤ a) (hb : b ≤ 4611686018427387904) (s : St) : CallsD P F.ival_Length [.agg [.int .i64 a, .int .i64 b]] s fun v s' => v = .int .u64 (if b ≤ a then 0 else b - a) ∧ Frw [] s s' := by
 refine vc.ival_Length_ok ?_
 intro m1 s2 n2
 refine ⟨_, _, n2.own.ldN 0 2 (by simp), (empty_ok _ _ _).mono ?_⟩
 rintro _ s6 ⟨rfl, f6⟩
 have o6 := n2.own.ext f6
 refine ⟨_, rfl, bsel_of (fun c => ?_) fun c => ⟨_, o6.ld1 1 rfl, _, o6.ld1 0 rfl, ?_⟩⟩
 ·have c : b ≤ a := by simpa using c
  rw [if_pos c]
  exact ⟨rfl, n2.fwd.trans f6⟩
 ·have c : ¬ b ≤ a := by simpa using c
  rw [if_neg c, wrap_u64 (a := b) (by omega) (by omega), wrap_u64 (a := a) (by omega) (by omega), wrap_u64 (by omega) (by omega)]
  exact ⟨rfl, n2.fwd.trans f6⟩
theorem ends_ok (n : Nd) (t : Int) (ha : 0 ≤ n.fr) (hb : n.till ≤ 4611686018427387904) (s : St) : CallsD P F.sweep_place_ends [.agg n.cells, .int .i64 t] s fun v s' => v = .tuple [.int .i64 (mn2 n.till t), .bool (decide (n.fr < n.till ∧ n.fr < t))] ∧ Frw [] s s' := by
 refine vc.sweep_place_ends_ok ?_
 intro m1 s2 n2 s3 b3
 have o3 := n2.own.ext b3.fwd
 refine ⟨_, o3.ld1 6 rfl, _, _, o3.ldN 5 2 (by simp), (Length_ok n.fr n.till ha hb s3).mono ?_⟩
 rintro _ s8 ⟨rfl, f8⟩
 have o8 := o3.ext f8
 have F : Frw [] s s8 := (n2.fwd.trans b3.fwd).trans f8
 have em : (if (false = true) then (if (t > n.till) then t else n.till) else (if (t < n.till) then t else n.till)) = mn2 n.till t := by unfold mn2; simp
 rw [em]
 refine ⟨_, rfl, o8.ld1 6 rfl, bsel_of (fun c => ⟨_, o8.ld1 5 rfl, ?_, F⟩) fun c => ⟨?_, F⟩⟩
 ·have c : n.fr < n.till := by
   by_cases h : n.till ≤ n.fr
   ·rw [if_pos h] at c; simp at c
   ·omega
  simp [c]
 ·have c : ¬ n.fr < n.till := by
   intro h
   rw [if_neg (by omega)] at c
   simp at c
   omega
  simp [c]
abbrev walkV (w : Nd) (x : AV) : AV := .agg [.int .u64 w.id, .int .u64 w.par, .int .i64 w.org, .int .u64 w.tree, .int .i64 w.depth, .int .i64 w.fr, .int .i64 w.till, x]
theorem at_ok {s0 s : St} {f : Nat} {B : Int → Nat} {o : Nat → Tg} {S : FoD} (h : Fo s0 s f B o S) (hT : TreeI S) {i : Int} (hi : i ∈ S.N) :
  CallsD P F.sweep_at [.ptr f 0, .int .u64 i] s fun v s' => ∃ x, v = walkV (S.pl i).n x ∧ Sl linkE s' x (S.kd i) ∧ Gone s x ∧ (∀ c, c ∈ blkOf x → s'.h.get c ≠ none) ∧ Frw [] s s' := by
 refine CallsD.fr fun hfr => vc.sweep_at_ok ?_
 intro m1 s2 n2
 refine (CallsD.of fun _ => Node_ok (h.ext n2.fwd n2.fr) i).mono ?_
 rintro _ s4 ⟨⟨rfl, f4⟩, fr4⟩
 simp only [if_pos hi, decide_eq_true hi]
 refine ⟨_, _, _, _, _, _, _, true, rfl, fun m13 s14 n14 => ?_⟩
 obtain ⟨s15, w15, o15, f15, fr15⟩ := n14.put (S.pl i).n.cells rfl rfl
 refine ⟨s15, w15, fun s16 b16 => ?_⟩
 have o16 := o15.ext b16.fwd
 have F16 : Frw [] s2 s16 := (f4.trans f15).trans b16.fwd
 have h16 := (h.ext n2.fwd n2.fr).ext F16 b16.fr
 refine ⟨_, _, _, _, _, _, _, o16.all rfl, (CallsD.of fun _ => Children_ok h16 hT i).mono ?_⟩
 rintro x s25 ⟨⟨⟨hx, hg, hro⟩, f25⟩, fr25⟩
 have hth : ∀ c, c ∈ blkOf x → s25.h.get c ≠ none := by
  rcases hro with rfl | ⟨b, rfl, hR⟩
  ·simp [blkOf]
  ·intro c hc
   obtain ⟨cs, ho, _⟩ := hR
   have : c = b := by simpa [blkOf] using hc
   rw [this]; exact ho.there
 have ek : kidsOf S i = S.kd i := by unfold kidsOf; rw [if_pos hi]; rfl
 rw [ek] at hx
 have o25 := o16.ext f25
 have om := (n2.own.ext F16).ext f25
 obtain ⟨s27, w27, o27, f27, n27, _, c27⟩ := om.wrAll [.int .u64 (S.pl i).n.id, .int .u64 (S.pl i).n.par, .int .i64 (S.pl i).n.org, .int .u64 (S.pl i).n.tree, .int .i64 (S.pl i).n.depth, .int .i64 (S.pl i).n.fr, .int .i64 (S.pl i).n.till, x] (by show ones [x] = true; rw [hx.onesx]; rfl) rfl
 have ht2 : s16.h.get m1 ≠ none := (n2.own.ext F16).there
 refine ⟨x, rfl, o25.all rfl, hx.one ⟨s27, w27, _, _, _, _, _, _, _, _, o27.all rfl, x, rfl, hx.wr f27 hg ht2, (hg.back F16).back n2.fwd, fun c hc => ?_, ?_⟩⟩
 ·by_cases e : c = m1
  ·rw [e]; exact o27.there
  ·rw [c27 c e]; exact hth c hc
 refine ((n2.fwd.trans F16).trans f25).step f27 fun c hc => ?_
 have : c = m1 := by simpa using hc
 rw [this]; exact n2.gone
def LastP (S : FoD) (ks : List Int) (t : Int) (n : Nd) (e : Int) (c : Bool) : Prop :=
 (c = false ∧ ∀ k, k ∈ ks → ¬ ((S.pl k).n.fr < (S.pl k).n.till ∧ (S.pl k).n.fr < t)) ∨
 (c = true ∧ ∃ k, k ∈ ks ∧ n = (S.pl k).n ∧ (S.pl k).n.fr < (S.pl k).n.till ∧ (S.pl k).n.fr < t ∧ e = mn2 (S.pl k).n.till t ∧
  ∀ j, j ∈ ks → (S.pl j).n.fr < (S.pl j).n.till → (S.pl j).n.fr < t → mn2 (S.pl j).n.till t ≤ e ∧ (mn2 (S.pl j).n.till t = e → k ≤ j))
theorem LastP.skip {S : FoD} {ks : List Int} {t e : Int} {n : Nd} {c : Bool} {a : Int} (h : LastP S ks t n e c) (ha : ¬ ((S.pl a).n.fr < (S.pl a).n.till ∧ (S.pl a).n.fr < t) ∨ (c = true ∧ (mn2 (S.pl a).n.till t < e ∨ mn2 (S.pl a).n.till t = e ∧ n.id ≤ a))) (hid : ∀ k, k ∈ ks → (S.pl k).n.id = k) : LastP S (ks ++ [a]) t n e c := by
 rcases h with ⟨rfl, h⟩ | ⟨rfl, k, h1, h2, h3, h4, h5, h6⟩
 ·refine .inl ⟨rfl, fun k hk => ?_⟩
  rcases List.mem_append.1 hk with hk | hk
  ·exact h k hk
  ·rw [List.mem_singleton.1 hk]
   rcases ha with ha | ⟨ha, _⟩
   ·exact ha
   ·simp at ha
 ·refine .inr ⟨rfl, k, List.mem_append_left _ h1, h2, h3, h4, h5, fun j hj e1 e2 => ?_⟩
  rcases List.mem_append.1 hj with hj | hj
  ·exact h6 j hj e1 e2
  ·obtain rfl := List.mem_singleton.1 hj
   rcases ha with ha | ⟨_, ha⟩
   ·exact absurd ⟨e1, e2⟩ ha
   ·have := hid k h1
    rw [h2, this] at ha
    omega
theorem LastP.take {S : FoD} {ks : List Int} {t e : Int} {n : Nd} {c : Bool} {a : Int} (h : LastP S ks t n e c) (h1 : (S.pl a).n.fr < (S.pl a).n.till) (h2 : (S.pl a).n.fr < t) (ha : c = false ∨ mn2 (S.pl a).n.till t > e ∨ mn2 (S.pl a).n.till t = e ∧ a < n.id) (hid : ∀ k, k ∈ ks → (S.pl k).n.id = k) : LastP S (ks ++ [a]) t (S.pl a).n (mn2 (S.pl a).n.till t) true := by
 refine .inr ⟨rfl, a, List.mem_append_right _ (List.mem_singleton.2 rfl), rfl, h1, h2, rfl, fun j hj e1 e2 => ?_⟩
 rcases List.mem_append.1 hj with hj | hj
 ·rcases h with ⟨rfl, h⟩ | ⟨rfl, k, g1, g2, g3, g4, g5, g6⟩
  ·exact absurd ⟨e1, e2⟩ (h j hj)
  ·have := g6 j hj e1 e2
   have hk := hid k g1
   rw [g2, hk] at ha
   rcases ha with ha | ha
   ·simp at ha
   ·omega
 ·obtain rfl := List.mem_singleton.1 hj
  omega
end
end Go.Eng.S

namespace Go.Eng.S
open Go Go.Eng Go.Proofs
set_option linter.constructorNameAsVariable false
noncomputable section
attribute [local irreducible] bsel
set_option maxHeartbeats 1000000 in
theorem last_ok {s0 s : St} {f : Nat} {B : Int → Nat} {o : Nat → Tg} {S : FoD} (h : Fo s0 s f B o S) (hNB : NdB S) (hid : ∀ i, i ∈ S.N → (S.pl i).n.id = i) {b : Nat} {v : AV} (ob : Own s b [.ptr f 0, v]) {w : Nd} {x : AV} {ks : List Int} (hx : Sl linkE s x ks) (hks : ∀ i, i ∈ ks → i ∈ S.N) (hsz : ks.length ≤ 1000000) (t : Int) :
  CallsD P F.p_sweep_path_last [.ptr b 0, walkV w x, .int .i64 t] s fun r s' => Frw [] s s' ∧ ∃ n e c, r = .tuple [.agg n.cells, .int .i64 e, .bool c] ∧ LastP S ks t n e c := by
 refine vc.p_sweep_path_last_ok ?_
 intro m1 s2 n2 m3 s4 n4 m5 s6 n6
 have o1 := (n2.own.ext n4.fwd).ext n6.fwd
 have o3 : Own s6 m3 nd0.cells := n4.own.ext n6.fwd
 have F6 : Frw [] s s6 := (n2.fwd.trans n4.fwd).trans n6.fwd
 have hx6 := hx.ext F6
 have hh6 := h.ext F6 n6.fr
 have ob6 := ob.ext F6
 have hne53 : m5 ≠ m3 := (n6.ne n4.own.there).symm
 have g5 : s.h.get m5 = none := (n2.fwd.trans n4.fwd).none n6.gone (by simp)
 refine ⟨_, o1.ld1 7 rfl, hx6.slen ⟨fun e c i s' m => ∃ (q : Nat) (n : Nd), i = q ∧ m = ks.length - q ∧ q ≤ ks.length ∧ Frw [m5] s6 s' ∧ Fr s' ∧ Own s' m5 n.cells ∧ LastP S (ks.take q) t n e c,
  ⟨_, 0, nd0, rfl, rfl, by omega, .refl _ _, n6.fr, n6.own, .inl ⟨rfl, by simp⟩⟩, ?_⟩⟩
 rintro e c _ s14 _ ⟨q, n, rfl, rfl, hq, F14, fr14, o5, hL⟩
 have FF : Frw [] s s14 := F6.step F14 fun c hc => by rw [List.mem_singleton.1 hc]; exact g5
 have hx14 := hx.ext FF
 refine bsel_of (fun cc => ?_) fun cc => ?_
 ·have cc : q < ks.length := by simpa using cc
  have hkN := hks _ (List.getElem_mem cc)
  have hF14 := h.ext FF fr14
  have htk : ks.take (q + 1) = ks.take q ++ [ks[q]] := List.take_succ_eq_append_getElem cc
  have hidk : ∀ k, k ∈ ks.take q → (S.pl k).n.id = k := fun k hk => hid k (hks k (List.mem_of_mem_take hk))
  have hik := hid _ hkN
  have hnb := hNB _ hkN
  generalize hk' : ks[q] = k at *
  refine hx14.ixs rfl rfl cc fun b1 i1 hr1 => ?_
  rw [hk'] at hr1
  refine ⟨_, hr1.ld1 0 rfl, ptrK_of ⟨_, (ob.ext FF).ld1 0 rfl, (CallsD.of fun _ => Node_ok hF14 k).mono ?_⟩⟩
  rintro _ s23 ⟨⟨rfl, f23⟩, fr23⟩
  simp only [if_pos hkN, decide_eq_true hkN]
  refine ⟨_, _, _, _, _, _, _, true, rfl, fun m32 s33 n33 => ?_⟩
  obtain ⟨s34, w34, o34, f34, fr34⟩ := n33.put (S.pl k).n.cells rfl rfl
  refine ⟨s34, w34, _, _, _, _, _, _, _, o34.all rfl, fun m42 s43 n43 => ?_⟩
  obtain ⟨s44, w44, o44, f44, fr44⟩ := n43.put (S.pl k).n.cells rfl rfl
  refine ⟨s44, w44, _, _, _, _, _, _, _, o44.all rfl, (CallsD.of fun _ => ends_ok (S.pl k).n t (by omega) (by omega) s44).mono ?_⟩
  rintro _ s53 ⟨⟨rfl, f53⟩, fr53⟩
  have F53 : Frw [] s14 s53 := ((f23.trans f34).trans f44).trans f53
  have o44' := o44.ext f53
  have o5' := o5.ext F53
  have F : Frw [m5] s6 s53 := F14.x F53
  refine ⟨_, _, rfl, fun d s' _ => s' = s53 ∧ (d = true → ((S.pl k).n.fr < (S.pl k).n.till ∧ (S.pl k).n.fr < t) ∧ (c = false ∨ mn2 (S.pl k).n.till t > e ∨ mn2 (S.pl k).n.till t = e ∧ k < n.id)) ∧
   (d = false → ¬ ((S.pl k).n.fr < (S.pl k).n.till ∧ (S.pl k).n.fr < t) ∨ (c = true ∧ (mn2 (S.pl k).n.till t < e ∨ mn2 (S.pl k).n.till t = e ∧ n.id ≤ k))), ?_, ?_⟩
  ·refine bsel_of (fun c1 => bsel_of (fun c2 => ⟨0, rfl, fun _ => ⟨by simpa using c1, .inl (by simpa using c2)⟩, fun h => by simp at h⟩) fun c2 => bsel_of (fun c3 => ⟨0, rfl, fun _ => ⟨by simpa using c1, .inr (.inl (by simpa using c3))⟩, fun h => by simp at h⟩) fun c3 => bsel_of (fun c4 => ⟨_, o44'.ld1 0 rfl, _, o5'.ld1 0 rfl, 0, rfl, fun hd => ⟨by simpa using c1, .inr (.inr ⟨by simpa using c4, ?_⟩)⟩, fun hd => .inr ⟨by simpa using c2, .inr ⟨by simpa using c4, ?_⟩⟩⟩) fun c4 => ⟨0, rfl, fun h => by simp at h, fun _ => .inr ⟨by simpa using c2, .inl ?_⟩⟩) fun c1 => ⟨0, rfl, fun h => by simp at h, fun _ => .inl (by simpa using c1)⟩
   ·have hd : (S.pl k).n.id < n.id := by simpa using hd
    omega
   ·have hd : n.id ≤ (S.pl k).n.id := by simpa using hd
    omega
   ·have c3 : mn2 (S.pl k).n.till t ≤ e := by simpa using c3
    have c4 : ¬ mn2 (S.pl k).n.till t = e := by simpa using c4
    omega
  rintro d _ _ ⟨rfl, hd1, hd2⟩
  refine bsel_of (fun cd => ?_) fun cd => ?_
  ·obtain ⟨s74, w74, o74, f74, n74, _, c74⟩ := o5'.wrAll (S.pl k).n.cells rfl rfl
   obtain ⟨⟨g1, g2⟩, g3⟩ := hd1 cd
   have fr74 : Fr s74 := fr53.wr o5'.there n74 c74
   refine ⟨_, _, _, _, _, _, _, o44'.all rfl, s74, w74, ks.length - (q + 1), by omega, q + 1, (S.pl k).n, by rw [wrap_i64 (by omega) (by omega)]; omega, rfl, by omega, F.trans f74, fr74, o74, ?_⟩
   rw [htk]
   exact hL.take g1 g2 g3 hidk
  ·refine ⟨ks.length - (q + 1), by omega, q + 1, n, by rw [wrap_i64 (by omega) (by omega)]; omega, rfl, by omega, F, fr53, o5', ?_⟩
   rw [htk]
   exact hL.skip (hd2 (by simpa using cd)) hidk
 ·have cc : q = ks.length := by simp at cc; omega
  subst cc
  rw [List.take_length] at hL
  obtain ⟨s84, w84, o84, f84, n84, _, c84⟩ := (o3.fwd F14 (by simpa using hne53.symm)).wrAll n.cells rfl rfl
  exact ⟨_, _, _, _, _, _, _, o5.all rfl, s84, w84, _, _, _, _, _, _, _, o84.all rfl, FF.step f84 fun c hc => by rw [List.mem_singleton.1 hc]; exact n2.fwd.none n4.gone (by simp), n, e, c, rfl, hL⟩
end
end Go.Eng.S

namespace Go.Eng.S
open Go Go.Eng Go.Proofs
set_option linter.constructorNameAsVariable false
noncomputable section
attribute [local irreducible] bsel
structure PathS (sF s : St) (b f : Nat) (v : AV) (L : List LegC) : Prop where
 own : Own s b [.ptr f 0, v]
 legs : So legE s v L
 gone : Gone sF v
 gb : sF.h.get b = none
 bv : b ∉ blkOf v
 fwd : Frw [] sF s
 fr : Fr s
theorem PathS.ext {sF s s' : St} {b f : Nat} {v : AV} {L : List LegC} (h : PathS sF s b f v L) (hf : Frw [] s s') (hfr : Fr s') : PathS sF s' b f v L :=
 ⟨h.own.ext hf, h.legs.ext hf, h.gone, h.gb, h.bv, h.fwd.trans hf, hfr⟩
def PathTo (sF s s' : St) (b f : Nat) (v : AV) (L' : List LegC) : Prop := ∃ v', PathS sF s' b f v' L' ∧ Frw (b :: blkOf v) s s' ∧ ∀ c, c ∈ blkOf v' → c ∈ blkOf v ∨ s.h.get c = none
theorem PathS.push {sF s sA : St} {b f : Nat} {v : AV} {L : List LegC} (h : PathS sF s b f v L) (hsz : L.length ≤ 4000) (fA : Frw [] s sA) (frA : Fr sA) {c0 : Nat} (hc0 : sA.h.get c0 = none) (hlt : c0 < sA.nx) (a : LegC) {K : St → Prop} (hK : ∀ s', PathTo sF s s' b f v (L ++ [a]) → K s') :
  ∃ x s', appendX D (hsetS sA c0 (cellsO a.cells)) T.sl_api_Leg T.sl_api_Leg v (.slice c0 0 1 (.exact 1)) = some (x, s') ∧ oneK x (∃ s2, wrN s' (.ptr b (0 + 1)) [x] = some s2 ∧ K s2) := by
 have f1 : Frw [] sA (hsetS sA c0 (cellsO a.cells)) := hsetS_fwd hc0
 have fr1 := hsetS_fr (o := cellsO a.cells) frA hlt
 have F1 := fA.trans f1
 have h1 := h.ext F1 fr1
 obtain ⟨x, s', w, so, f2, bx, fr2, nx2⟩ := h1.legs.append' (D := D) (t := T.sl_api_Leg) (a := a) (e := a.cells) ty.sl_api_Leg rfl ty.api_Leg rfl rfl rfl rfl (hsetS_own (cs := a.cells)).rd rfl (show (L.length + 1 + (L.length + 1) / 4 + 600) * 24 ≤ pow48 by unfold pow48; omega) (by unfold pow48; omega) fr1
 have o2 := h1.own.fwd f2 h.bv
 have hnew : (hsetS sA c0 (cellsO a.cells)).h.get (hsetS sA c0 (cellsO a.cells)).nx = none := fr1 _ (Nat.le_refl _)
 obtain ⟨s3, w3, o3, f3, n3, _, c3⟩ := o2.wrN 1 [x] (by show ones [x] = true; rw [so.sl.onesx]; rfl) (by simp)
 have hbx : b ∉ blkOf x := by
  rw [bx]
  intro hc
  have : b = (hsetS sA c0 (cellsO a.cells)).nx := by simpa using hc
  rw [← this] at hnew
  exact h1.own.there hnew
 refine ⟨x, s', w, so.sl.one ⟨s3, w3, hK s3 ⟨x, ⟨o3, ?_, ?_, h.gb, hbx, ?_, fr2.wr o2.there n3 c3⟩, ?_, ?_⟩⟩⟩
 ·exact so.beside f3 fun c hc hcx => hbx (by rw [List.mem_singleton.1 hc] at hcx; exact hcx)
 ·intro c hc
  rw [bx, List.mem_singleton] at hc
  rw [hc]
  exact (h.fwd.trans F1).none hnew (by simp)
 ·refine ((h.fwd.trans F1).step f2 h.gone).step f3 fun c hc => ?_
  rw [List.mem_singleton.1 hc]; exact h.gb
 ·exact ((F1.mono (by simp)).trans (f2.mono fun c hc => List.mem_cons_of_mem _ hc)).trans (f3.mono fun c hc => by rw [List.mem_singleton.1 hc]; exact List.mem_cons_self ..)
 ·intro c hc
  rw [bx, List.mem_singleton] at hc
  rw [hc]
  exact .inr (F1.none hnew (by simp))
def HungL (w x t : Int) (L L' : List LegC) : Prop :=
 (∃ (k : Nat) (h : k < L.length), k + 1 = L.length ∧ L[k].own = w ∧ L[k].fr = t ∧ L' = L.set k { L[k] with fr := x }) ∨
 (L' = L ++ [⟨w, x, t⟩] ∧ ∀ (k : Nat) (h : k < L.length), k + 1 = L.length → ¬ (L[k].own = w ∧ L[k].fr = t))
set_option maxHeartbeats 1000000 in
theorem hung_ok {sF s : St} {b f : Nat} {v : AV} {L : List LegC} (h : PathS sF s b f v L) (hsz : L.length ≤ 4000) (w : Nd) {x : AV} (hx1 : ones [x] = true) (p t : Int) :
  CallsA P F.p_sweep_path_hung [.ptr b 0, walkV w x, .int .i64 p, .int .i64 t] s fun r s' => r = .tuple [] ∧ ∃ L', PathTo sF s s' b f v L' ∧ HungL w.id p t L L' := by
 refine vc.p_sweep_path_hung_ok ?_
 intro m1 s2 n2
 have h2 := h.ext n2.fwd n2.fr
 refine ptrK_of ⟨v, h2.own.ld1 1 rfl, h2.legs.sl.slen fun s7 b7 => ?_⟩
 have F7 := n2.fwd.trans b7.fwd
 have h7 := h.ext F7 b7.fr
 have o1 := n2.own.ext b7.fwd
 have key : ∀ {s27 : St}, Bump s7 17 s27 → (∀ (k : Nat) (h : k < L.length), k + 1 = L.length → ¬ (L[k].own = w.id ∧ L[k].fr = t)) →
   ∃ x32 s33, appendX D (hsetS s27 (s7.nx + 12) (cellsO [.int .u64 w.id, .int .i64 p, .int .i64 t])) T.sl_api_Leg T.sl_api_Leg v (.slice (s7.nx + 12) 0 1 (.exact 1)) = some (x32, s33) ∧ oneK x32 (∃ s36, wrN s33 (.ptr b (0 + 1)) [x32] = some s36 ∧ ((AV.tuple [] = AV.tuple []) ∧ ∃ L', PathTo sF s s36 b f v L' ∧ HungL w.id p t L L')) := by
  intro s27 b27 hne
  exact h.push hsz (F7.trans b27.fwd) b27.fr (by rw [b27.get]; exact b7.fr _ (by omega)) (by rw [b27.lt]; omega) ⟨w.id, p, t⟩ fun s' hs' => ⟨rfl, _, hs', .inr ⟨rfl, hne⟩⟩
 by_cases hL : L.length = 0
 ·refine bsel_of (fun c => ?_) fun c s47 b47 => ?_
  ·rw [hL] at c
   exact absurd c (by decide)
  ·have h47 := h7.ext b47.fwd b47.fr
   obtain ⟨x32, s33, e1, e2⟩ := key b47 fun k hk => by omega
   exact ptrK_of ⟨v, h47.own.ld1 1 rfl, _, (o1.ext b47.fwd).ld1 0 rfl, x32, s33, e1, ptrK_of e2⟩
 obtain ⟨k, hk⟩ : ∃ k, L.length = k + 1 := ⟨L.length - 1, by omega⟩
 have ek : IntKind.wrap .i64 (((L.length : Nat) : Int) - 1) = (k : Int) := by rw [hk, wrap_i64 (by omega) (by omega)]; omega
 have hkl : k < L.length := by omega
 rw [ek]
 refine bsel_of (fun c => ptrK_of ⟨v, h7.own.ld1 1 rfl, ?_⟩) fun c => by simp at c
 refine h7.legs.sl.ixs (E := legE) rfl rfl hkl fun b1 i1 hr1 => ⟨_, hr1.ld1 0 rfl, _, o1.ld1 0 rfl, bsel_of (fun c1 => ptrK_of ⟨v, h7.own.ld1 1 rfl, ?_⟩) fun c1 => ?_⟩
 ·have c1 : L[k].own = w.id := by simpa using c1
  refine h7.legs.sl.ixs (E := legE) rfl rfl hkl fun b2 i2 hr2 => ⟨_, hr2.ld1 1 rfl, bsel_of (fun c2 => ptrK_of ⟨v, h7.own.ld1 1 rfl, ?_⟩) fun c2 s27 b27 => ?_⟩
  ·have c2 : L[k].fr = t := by simpa using c2
   refine h7.legs.ixsWr (E := legE) rfl rfl hkl (j := 1) (vs := [.int .i64 p]) (a := { L[k] with fr := p }) rfl (by show 1 + 1 ≤ 3; omega) rfl fun b3 i3 s26 bv3 w26 so26 f26 n26 c26 => ⟨s26, w26, rfl, _, ⟨v, ⟨?_, so26, h.gone, h.gb, h.bv, ?_, ?_⟩, ?_, fun c hc => .inl hc⟩, .inl ⟨k, hkl, by omega, c1, c2, rfl⟩⟩
   ·refine h7.own.fwd f26 fun hc => h.bv ?_
    rw [bv3]; exact hc
   ·exact (h.fwd.trans F7).step f26 fun c hc => h.gone c (by rw [bv3]; exact hc)
   ·exact b7.fr.wr (h7.legs.there _ (by rw [bv3]; exact List.mem_singleton.2 rfl)) n26 c26
   ·refine (F7.mono (by simp)).trans (f26.mono fun c hc => List.mem_cons_of_mem _ ?_)
    rw [bv3]; exact hc
  ·have c2 : ¬ L[k].fr = t := by simpa using c2
   have h27 := h7.ext b27.fwd b27.fr
   obtain ⟨x32, s33, e1, e2⟩ := key b27 fun j hj e hh => by
    obtain rfl : j = k := by omega
    exact c2 hh.2
   exact ptrK_of ⟨v, h27.own.ld1 1 rfl, _, (o1.ext b27.fwd).ld1 0 rfl, x32, s33, e1, ptrK_of e2⟩
 ·have c1 : ¬ L[k].own = w.id := by simpa using c1
  intro s37 b37
  have h37 := h7.ext b37.fwd b37.fr
  obtain ⟨x32, s33, e1, e2⟩ := key b37 fun j hj e hh => by
   obtain rfl : j = k := by omega
   exact c1 hh.1
  exact ptrK_of ⟨v, h37.own.ld1 1 rfl, _, (o1.ext b37.fwd).ld1 0 rfl, x32, s33, e1, ptrK_of e2⟩
end
end Go.Eng.S

namespace Go.Eng.S
open Go Go.Eng Go.Proofs
set_option linter.constructorNameAsVariable false
noncomputable section
attribute [local irreducible] bsel
theorem PathTo.comp {sF s s1 s2 : St} {b f : Nat} {v v1 : AV} {L2 : List LegC} (F1 : Frw (b :: blkOf v) s s1) (N1 : ∀ c, c ∈ blkOf v1 → c ∈ blkOf v ∨ s.h.get c = none) (h2 : PathTo sF s1 s2 b f v1 L2) : PathTo sF s s2 b f v L2 := by
 obtain ⟨v2, P2, F2, N2⟩ := h2
 refine ⟨v2, P2, F1.go F2 fun c hc => ?_, fun c hc => ?_⟩
 ·rcases List.mem_cons.1 hc with rfl | hc
  ·exact .inl (List.mem_cons_self ..)
  ·exact (N1 c hc).imp (List.mem_cons_of_mem _) id
 ·rcases N2 c hc with h3 | h3
  ·exact N1 c h3
  ·by_cases hm : c ∈ blkOf v
   ·exact .inl hm
   ·refine .inr (F1.none h3 fun hc2 => ?_)
    rcases List.mem_cons.1 hc2 with rfl | hc2
    ·exact P2.bv hc
    ·exact hm hc2
theorem path_go {s s1 s2 : St} {b : Nat} {v v1 v2 : AV} (hb2 : b ∉ blkOf v2) (F1 : Frw (b :: blkOf v) s s1) (N1 : ∀ c, c ∈ blkOf v1 → c ∈ blkOf v ∨ s.h.get c = none) (F2 : Frw (b :: blkOf v1) s1 s2) (N2 : ∀ c, c ∈ blkOf v2 → c ∈ blkOf v1 ∨ s1.h.get c = none) : Frw (b :: blkOf v) s s2 ∧ ∀ c, c ∈ blkOf v2 → c ∈ blkOf v ∨ s.h.get c = none := by
 refine ⟨F1.go F2 fun c hc => ?_, fun c hc => ?_⟩
 ·rcases List.mem_cons.1 hc with rfl | hc
  ·exact .inl (List.mem_cons_self ..)
  ·exact (N1 c hc).imp (List.mem_cons_of_mem _) id
 ·rcases N2 c hc with h3 | h3
  ·exact N1 c h3
  ·by_cases hm : c ∈ blkOf v
   ·exact .inl hm
   ·refine .inr (F1.none h3 fun hc2 => ?_)
    rcases List.mem_cons.1 hc2 with rfl | hc2
    ·exact hb2 hc
    ·exact hm hc2
theorem notin_path {b d : Nat} {v : AV} (hb : d ≠ b) (hv : d ∉ blkOf v) : d ∉ b :: blkOf v := fun hc => by
 rcases List.mem_cons.1 hc with hc | hc
 ·exact hb hc
 ·exact hv hc
structure BackI (sF s : St) (b f : Nat) (v : AV) (S : FoD) (T hi : Int) (i t0 : Int) (n0 : Nat) (m : Nat) (x : AV) (t : Int) (s' : St) (k : Nat) : Prop where
 k : k = ahead S t (S.kd i)
 own : Own s' m [.int .u64 (S.pl i).n.id, .int .u64 (S.pl i).n.par, .int .i64 (S.pl i).n.org, .int .u64 (S.pl i).n.tree, .int .i64 (S.pl i).n.depth, .int .i64 (S.pl i).n.fr, .int .i64 (S.pl i).n.till, x]
 sl : Sl linkE s' x (S.kd i)
 mb : m ≠ b
 xb : ∀ c, c ∈ blkOf x → c ≠ b ∧ s'.h.get c ≠ none
 te : t ≤ t0
 tt : t = t0 ∨ (S.pl i).n.fr ≤ t
 path : ∃ v1 L1, PathS sF s' b f v1 L1 ∧ Frw (b :: blkOf v) s s' ∧ (∀ c, c ∈ blkOf v1 → c ∈ blkOf v ∨ s.h.get c = none) ∧ m ∉ blkOf v1 ∧ (∀ c, c ∈ blkOf x → c ∉ blkOf v1) ∧ Tile S T hi t L1 ∧ L1.length + 2 * ahead S t (S.kd i) + 2 ≤ n0
set_option maxHeartbeats 2000000 in
theorem back_ok {s0 sF : St} {f : Nat} {B : Int → Nat} {o : Nat → Tg} {S : FoD} {cs : List SpC} (hF : Fo s0 sF f B o S) (hS : ForS cs S) (hN : S.N.length ≤ 1000) (ht : ∀ i, i ∈ S.N → 0 ≤ (S.C i).t0 ∧ (S.C i).t0 ≤ (S.C i).t1 ∧ (S.C i).t1 ≤ 4611686018427387904) {b : Nat} {T hi : Int} :
  ∀ (n : Nat) (i : Int), i ∈ S.N → szO S i ≤ n → ∀ {s : St} {v : AV} {L : List LegC} {t : Int}, PathS sF s b f v L → Tile S T hi t L → t ≤ (S.pl i).n.till → (S.pl i).n.tree = T → L.length + 2 * szO S i ≤ 4000 →
   CallsA P F.p_sweep_path_back [.ptr b 0, .int .u64 i, .int .i64 t] s fun r s' => r = .tuple [] ∧ ∃ L', PathTo sF s s' b f v L' ∧ L'.length + 1 ≤ L.length + 2 * szO S i ∧ Tile S T hi (if (S.pl i).n.fr < t then (S.pl i).n.fr else t) L'
 | 0, i, _, h, _, _, _, _, _, _, _, _, _ => by unfold szO at h; omega
 | n + 1, i, hi', hn, s, v, L, t, hP, hTi, htl, htr, hsz => by
  have hT := hS.kids
  have hNB := ndb_of hS ht
  have hnb := hNB i hi'
  have hid := hS.id
  have hidi := hid i hi'
  have hsk := szO_kids hT hi'
  have hkN : ∀ c, c ∈ S.kd i → c ∈ S.N := fun c hc => (hT.kids i hi' c hc).1
  have hkl : (S.kd i).length ≤ 1000000 := Nat.le_of_lt (hT.len i hi')
  refine vc.p_sweep_path_back_ok (ptrK_of ⟨_, hP.own.ld1 0 rfl, ?_⟩)
  refine ((CallsD.of fun _ => at_ok (hF.ext hP.fwd hP.fr) hT hi').a).mono ?_
  rintro _ s5 ⟨⟨x, rfl, hx5, hgx, hxt, f5⟩, fr5⟩
  refine ⟨_, _, _, _, _, _, _, x, rfl, fun m14 s15 n15 => ?_⟩
  obtain ⟨s16, w16, o16, f16, fr16⟩ := n15.put [.int .u64 (S.pl i).n.id, .int .u64 (S.pl i).n.par, .int .i64 (S.pl i).n.org, .int .u64 (S.pl i).n.tree, .int .i64 (S.pl i).n.depth, .int .i64 (S.pl i).n.fr, .int .i64 (S.pl i).n.till, x] (by show ones [x] = true; rw [hx5.onesx]; rfl) rfl
  have F16 := f5.trans f16
  have hP16 := hP.ext F16 fr16
  have hm14 : s.h.get m14 = none := f5.none n15.gone (by simp)
  have hmb : m14 ≠ b := fun e => hP.own.there (e ▸ hm14)
  have hmv : m14 ∉ blkOf v := fun hc => hP.legs.there _ hc hm14
  refine ⟨s16, w16, BackI sF s b f v S T hi i t (L.length + 2 * szO S i) m14 x, ⟨_, rfl, o16, hx5.ext f16, hmb, fun c hc => ⟨fun e => hP.own.there (e ▸ hgx c hc), f16.gone (hxt c hc) (by simp)⟩, Int.le_refl _, .inl rfl,
   v, L, hP16, F16.mono (by simp), fun c hc => .inl hc, hmv, fun c hc hcv => hP.legs.there _ hcv (hgx c hc), hTi, ?_⟩, ?_⟩
  ·have := ahead_le (S := S) (t := t) (S.kd i)
   omega
  rintro t1 s20 k ⟨rfl, o20, hx20, _, hxb, hte, htt, v1, L1, P1, F1, N1, hmv1, hxv1, hT1, hL1⟩
  refine ⟨_, o20.ld1 5 rfl, bsel_of (fun c => ?_) fun c => ?_⟩
  rotate_left
  ·have c : ¬ t1 > (S.pl i).n.fr := by simpa using c
   refine ⟨rfl, L1, ⟨v1, P1, F1, N1⟩, by omega, ?_⟩
   have e : (if (S.pl i).n.fr < t then (S.pl i).n.fr else t) = t1 := by split <;> omega
   rw [e]; exact hT1
  have c : (S.pl i).n.fr < t1 := by simpa using c
  have h1 := hF.ext P1.fwd P1.fr
  refine ⟨_, _, _, _, _, _, _, _, o20.all rfl, ((CallsD.of fun _ => last_ok h1 hNB hid P1.own (w := (S.pl i).n) hx20 hkN hkl t1).a).mono ?_⟩
  rintro _ s32 ⟨⟨f32, nd, e, fd, rfl, hLP⟩, fr32⟩
  refine ⟨_, _, _, _, _, _, _, _, _, rfl, fun m42 s43 n43 => ?_⟩
  obtain ⟨s44, w44, o44, f44, fr44⟩ := n43.put nd.cells rfl rfl
  have F44 := f32.trans f44
  have P44 := P1.ext F44 fr44
  have o20' := o20.ext F44
  have F1' : Frw (b :: blkOf v) s s44 := F1.x F44
  have hsz1 : L1.length ≤ 4000 := by omega
  refine ⟨s44, w44, bsel_of (fun cf => ?_) fun cf => ?_⟩
  ·-- none ahead: it hung on the span alone
   have cf : fd = false := by simpa using cf
   rcases hLP with ⟨_, hno⟩ | ⟨hh, _⟩
   rotate_left
   ·rw [cf] at hh; simp at hh
   refine ⟨_, _, _, _, _, _, _, _, o20'.all rfl, _, o20'.ld1 5 rfl, (hung_ok P44 hsz1 (S.pl i).n (x := x) (by rw [hx20.onesx]; rfl) (S.pl i).n.fr t1).mono ?_⟩
   rintro _ s55 ⟨rfl, L', hPT, hHL⟩
   have hleg : LegOk S T ⟨(S.pl i).n.id, (S.pl i).n.fr, t1⟩ := by
    rw [hidi]
    exact ⟨hi', htr, c, Int.le_refl _, Int.le_trans hte htl, fun k hk hlt hh => hno k hk ⟨hlt, hh.1⟩⟩
   have e1 : (if (S.pl i).n.fr < t then (S.pl i).n.fr else t) = (S.pl i).n.fr := if_pos (by omega)
   refine ⟨rfl, rfl, L', PathTo.comp F1' N1 hPT, ?_, ?_⟩
   ·rcases hHL with ⟨k, hk, _, _, _, rfl⟩ | ⟨rfl, _⟩
    ·rw [List.length_set]; omega
    ·rw [List.length_append, List.length_singleton]; omega
   ·rw [e1]
    rcases hHL with ⟨k, hk, hke, hko, hkf, rfl⟩ | ⟨rfl, hne⟩
    ·exact hT1.merge hk hke (by rw [hko]; exact hleg)
    ·exact hT1.push hleg rfl fun k hk hke hh => hne k hk hke ⟨hh, hT1.last k hk hke⟩
  have cf : fd = true := by simpa using cf
  rcases hLP with ⟨hh, _⟩ | ⟨_, k, hkd, rfl, hkf, hkt, he, hbest⟩
  ·rw [cf] at hh; simp at hh
  have hkNk := hkN k hkd
  have hidk := hid k hkNk
  have hkids := hT.kids i hi' k hkd
  have hin := (clip_in hS (fun i hi => (ht i hi).2.1) hkNk).2.2.2 hkids.2.1
  rw [hkids.2.2] at hin
  have htk : (S.pl k).n.tree = T := by rw [(tree_last hS hkNk hkids.2.1).2, hkids.2.2, htr]
  have hel : e ≤ (S.pl k).n.till ∧ e ≤ t1 ∧ (S.pl k).n.fr < e ∧ (e < t1 → e = (S.pl k).n.till) := by rw [he]; unfold mn2; split <;> omega
  have hless := ahead_less (S := S) hkt hkd
  have hszk : szO S k ≤ n := by
   have h2 := ahead_le (S := S) (t := t1) (S.kd i)
   omega
  have hs1 : 1 ≤ szO S k := by unfold szO; omega
  have hm42 : s32.h.get m42 = none := n43.gone
  have hm42' : s20.h.get m42 = none := f32.none hm42 (by simp)
  have hne42 : m42 ≠ b := fun e => P1.own.there (e ▸ hm42')
  have hnv42 : m42 ∉ blkOf v1 := fun hc => P1.legs.there _ hc hm42'
  have cont : ∀ {s65 : St} {v2 : AV} {L2 : List LegC}, PathS sF s65 b f v2 L2 → Frw (b :: blkOf v1) s44 s65 → (∀ c, c ∈ blkOf v2 → c ∈ blkOf v1 ∨ s44.h.get c = none) → Tile S T hi e L2 → L2.length ≤ L1.length + 1 →
    ∃ n66, ld1 s65 (.ptr m42 0) = some (.int .u64 n66) ∧ CallsA P F.p_sweep_path_back [.ptr b 0, .int .u64 n66, .int .i64 e] s65 fun x67 s68 => x67 = .tuple [] ∧ ∃ n69, ld1 s68 (.ptr m42 5) = some (.int .i64 n69) ∧ ∃ m70, m70 < ahead S t1 (S.kd i) ∧ BackI sF s b f v S T hi i t (L.length + 2 * szO S i) m14 x n69 s68 m70 := by
   intro s65 v2 L2 P2 F2 N2 hT2 hL2
   obtain ⟨F02, N02⟩ := path_go P2.bv F1' N1 F2 N2
   have t42 : s44.h.get m42 ≠ none := o44.there
   have t14 : s44.h.get m14 ≠ none := o20'.there
   have o42 := o44.fwd F2 (notin_path hne42 hnv42)
   have o14 := o20'.fwd F2 (notin_path hmb hmv1)
   have n42 : m42 ∉ blkOf v2 := fun hc => (N2 _ hc).elim hnv42 t42
   have n14 : m14 ∉ blkOf v2 := fun hc => (N2 _ hc).elim hmv1 t14
   have tx : ∀ c, c ∈ blkOf x → s44.h.get c ≠ none := fun c hc => F44.gone (hxb c hc).2 (by simp)
   have nx : ∀ c, c ∈ blkOf x → c ∉ b :: blkOf v1 := fun c hc => notin_path (hxb c hc).1 (hxv1 c hc)
   have hx2 : Sl linkE s65 x (S.kd i) := (hx20.ext F44).beside F2 fun c hc => .inr fun hcx => nx c hcx hc
   have tx2 : ∀ c, c ∈ blkOf x → s65.h.get c ≠ none := fun c hc => F2.gone (tx c hc) (nx c hc)
   have nx2 : ∀ c, c ∈ blkOf x → c ∉ blkOf v2 := fun c hc hcv => (N2 _ hcv).elim (hxv1 c hc) (tx c hc)
   refine ⟨_, o42.ld1 0 rfl, ?_⟩
   rw [hidk]
   refine (back_ok hF hS hN ht n k hkNk hszk P2 hT2 hel.1 htk (by omega)).mono ?_
   rintro _ s68 ⟨rfl, L3, ⟨v3, P3, F3, N3⟩, hL3, hT3⟩
   obtain ⟨F03, N03⟩ := path_go P3.bv F02 N02 F3 N3
   have o42' := o42.fwd F3 (notin_path hne42 n42)
   rw [if_pos hel.2.2.1] at hT3
   refine ⟨rfl, _, o42'.ld1 5 rfl, ahead S (S.pl k).n.fr (S.kd i), by omega, rfl, o14.fwd F3 (notin_path hmb n14), hx2.beside F3 fun c hc => .inr fun hcx => notin_path (hxb c hcx).1 (nx2 c hcx) hc, hmb, fun c hc => ⟨(hxb c hc).1, F3.gone (tx2 c hc) (notin_path (hxb c hc).1 (nx2 c hc))⟩, by omega, .inr hin.1,
    v3, L3, P3, F03, N03, fun hc => (N3 _ hc).elim n14 o14.there, fun c hc hcv => (N3 _ hcv).elim (nx2 c hc) (tx2 c hc), hT3, by omega⟩
  refine bsel_of (fun ce => ?_) fun ce => ?_
  ·have ce : e < t1 := by simpa using ce
   refine ⟨_, _, _, _, _, _, _, _, o20'.all rfl, (hung_ok P44 hsz1 (S.pl i).n (x := x) (by rw [hx20.onesx]; rfl) e t1).mono ?_⟩
   rintro _ s65 ⟨rfl, L', ⟨v2, P2, F2, N2⟩, hHL⟩
   have hleg : LegOk S T ⟨(S.pl i).n.id, e, t1⟩ := by
    rw [hidi]
    refine ⟨hi', htr, ce, ?_, Int.le_trans hte htl, fun j hj hlt hh => ?_⟩
    ·show (S.pl i).n.fr ≤ e
     have := hel.2.2.2 ce
     omega
    ·have h2 := (hbest j hj hlt hh.1).1
     have h3 := hh.2
     simp only at h3
     unfold mn2 at h2
     split at h2 <;> omega
   refine ⟨rfl, cont P2 F2 N2 ?_ ?_⟩
   ·rcases hHL with ⟨q, hq, hqe, hqo, hqf, rfl⟩ | ⟨rfl, hne⟩
    ·exact hT1.merge hq hqe (by rw [hqo]; exact hleg)
    ·exact hT1.push hleg rfl fun q hq hqe hh => hne q hq hqe ⟨hh, hT1.last q hq hqe⟩
   ·rcases hHL with ⟨q, hq, _, _, _, rfl⟩ | ⟨rfl, _⟩
    ·rw [List.length_set]; omega
    ·rw [List.length_append, List.length_singleton]; omega
  ·have ce : ¬ e < t1 := by simpa using ce
   have ee : e = t1 := by omega
   exact cont P44 (.refl _ _) (fun c hc => .inl hc) (by rw [ee]; exact hT1) (by omega)
end
end Go.Eng.S

namespace Go.Eng.S
open Go Go.Eng Go.Proofs
set_option linter.constructorNameAsVariable false
noncomputable section
attribute [local irreducible] bsel
def RevI (L M : List LegC) (q : Nat) : Prop := M.length = L.length ∧ ∀ k, k < L.length → M[k]? = L[if k < q ∨ L.length ≤ k + q then L.length - 1 - k else k]?
theorem RevI.all {L M : List LegC} {q : Nat} (h : RevI L M q) (hq : L.length ≤ 2 * q + 1) : M = L.reverse := by
 refine List.ext_getElem? fun k => ?_
 by_cases hk : k < L.length
 ·rw [h.2 k hk, List.getElem?_reverse hk]
  congr 1
  split <;> omega
 ·rw [List.getElem?_eq_none (by rw [h.1]; omega), List.getElem?_eq_none (by rw [List.length_reverse]; omega)]
theorem RevI.next {L M : List LegC} {q : Nat} (h : RevI L M q) (hq : 2 * q + 1 < L.length) (h1 : q < M.length) (h2 : L.length - 1 - q < M.length) : RevI L ((M.set q M[L.length - 1 - q]).set (L.length - 1 - q) M[q]) (q + 1) := by
 have e1 : M[q]? = L[q]? := by rw [h.2 q (by omega), if_neg (by omega)]
 have e2 : M[L.length - 1 - q]? = L[L.length - 1 - q]? := by rw [h.2 _ (by omega), if_neg (by omega)]
 refine ⟨by rw [List.length_set, List.length_set]; exact h.1, fun k hk => ?_⟩
 rw [List.getElem?_set, List.getElem?_set, List.length_set]
 by_cases c1 : L.length - 1 - q = k
 ·rw [if_pos c1, if_pos h2, ← List.getElem?_eq_getElem h1, e1, if_pos (by omega)]
  congr 1
  omega
 ·rw [if_neg c1]
  by_cases c2 : q = k
  ·rw [if_pos c2, if_pos h1, ← List.getElem?_eq_getElem h2, e2, if_pos (by omega)]
   congr 1
   omega
  ·rw [if_neg c2, h.2 k hk]
   congr 1
   split <;> split <;> omega
set_option maxHeartbeats 1000000 in
theorem LegRev_ok {s : St} {v : AV} {L : List LegC} (hso : So legE s v L) (hl : L.length ≤ 1000000) :
  CallsD P F.slices_Reverse_sl_api_Leg_api_Leg [v] s fun r s' => r = .tuple [] ∧ So legE s' v L.reverse ∧ Frw (blkOf v) s s' := by
 refine CallsD.fr fun hfr => vc.slices_Reverse_sl_api_Leg_api_Leg_ok (hso.sl.slen ?_)
 refine ⟨fun i j s' m => ∃ (q : Nat) (M : List LegC), i = q ∧ j = (L.length : Int) - 1 - q ∧ m = L.length - q ∧ q ≤ L.length ∧ So legE s' v M ∧ RevI L M q ∧ Frw (blkOf v) s s' ∧ Fr s',
  ⟨_, 0, L, rfl, by rw [wrap_i64 (by omega) (by omega)]; omega, rfl, by omega, hso, ⟨rfl, fun k hk => by rw [if_neg (by omega)]⟩, .refl _ _, hfr⟩, ?_⟩
 rintro _ _ s6 _ ⟨q, M, rfl, rfl, rfl, hq, hsM, hR, F6, fr6⟩
 refine bsel_of (fun c => ?_) fun c => ?_
 rotate_left
 ·have c : ¬ (q : Int) < (L.length : Int) - 1 - q := by simpa using c
  rw [hR.all (by omega)] at hsM
  exact ⟨rfl, hsM, F6⟩
 have c : (q : Int) < (L.length : Int) - 1 - q := by simpa using c
 have h1 : q < M.length := by rw [hR.1]; omega
 have h2 : L.length - 1 - q < M.length := by rw [hR.1]; omega
 have ej : (L.length : Int) - 1 - q = ((L.length - 1 - q : Nat) : Int) := by omega
 intro s8 b8
 have hs8 := hsM.ext b8.fwd
 refine hs8.sl.ixs (E := legE) rfl ej h2 fun b1 i1 r1 => ⟨_, _, _, r1.all rfl, ?_⟩
 refine hs8.sl.ixs (E := legE) rfl rfl h1 fun b2 i2 r2 => ⟨_, _, _, r2.all rfl, ?_⟩
 refine hs8.ixsWr (E := legE) rfl rfl h1 (j := 0) (vs := M[L.length - 1 - q].cells) (a := M[L.length - 1 - q]) rfl (by show 0 + 3 ≤ 3; omega) rfl fun b3 i3 s21 bv3 w21 so21 f21 n21 c21 => ⟨s21, w21, ?_⟩
 have h2' : L.length - 1 - q < (M.set q M[L.length - 1 - q]).length := by rw [List.length_set]; exact h2
 have fr21 := b8.fr.wr (hs8.there _ (by rw [bv3]; exact List.mem_singleton.2 rfl)) n21 c21
 refine so21.ixsWr (E := legE) rfl ej h2' (j := 0) (vs := M[q].cells) (a := M[q]) rfl (by show 0 + 3 ≤ 3; omega) rfl fun b4 i4 s24 bv4 w24 so24 f24 n24 c24 => ⟨s24, w24, ?_⟩
 have fr24 := fr21.wr (so21.there _ (by rw [bv4]; exact List.mem_singleton.2 rfl)) n24 c24
 refine ⟨L.length - (q + 1), by omega, q + 1, _, by rw [wrap_i64 (by omega) (by omega)]; omega, by rw [wrap_i64 (by omega) (by omega)]; omega, rfl, by omega, so24, hR.next (by omega) h1 h2, ?_, fr24⟩
 exact ((F6.x b8.fwd).trans (f21.mono fun c hc => by rw [bv3]; exact hc)).trans (f24.mono fun c hc => by rw [bv4]; exact hc)
def isRoot (S : FoD) (i : Int) : Prop := i ∈ S.N ∧ (S.pl i).n.org ≠ 0
theorem rooted_ok {s0 s : St} {f : Nat} {B : Int → Nat} {o : Nat → Tg} {S : FoD} (h : Fo s0 s f B o S) (i : Int) :
  CallsD P F.sweep_rooted [.ptr f 0, .int .u64 i] s fun v s' => Frw [] s s' ∧ ((isRoot S i ∧ v = .tuple [.agg (S.pl i).n.cells, .int .i64 0]) ∨ (¬ isRoot S i ∧ v = .tuple [.agg nd0.cells, .int .i64 111])) := by
 refine vc.sweep_rooted_ok ?_
 intro m1 s2 n2
 refine bsel_of (fun c => by simp at c) fun _ => ?_
 refine (CallsD.of fun _ => Node_ok (h.ext n2.fwd n2.fr) i).mono ?_
 rintro _ s13 ⟨⟨rfl, f13⟩, fr13⟩
 have F13 := n2.fwd.trans f13
 by_cases hi : i ∈ S.N
 ·simp only [if_pos hi, decide_eq_true hi]
  refine ⟨_, _, _, _, _, _, _, true, rfl, fun m22 s23 n23 => ?_⟩
  obtain ⟨s24, w24, o24, f24, fr24⟩ := n23.put (S.pl i).n.cells rfl rfl
  have o1 : Own s24 m1 nd0.cells := (n2.own.ext f13).ext f24
  refine ⟨s24, w24, bsel_of (fun c => by simp at c) fun _ => ⟨_, o24.ld1 2 rfl, bsel_of (fun c => ?_) fun c => ?_⟩⟩
  ·have c : (S.pl i).n.org = 0 := by simpa using c
   obtain ⟨s34, w34, o34, f34, n34, _, c34⟩ := o1.wrAll nd0.cells rfl rfl
   exact ⟨s34, w34, _, _, _, _, _, _, _, o34.all rfl, (F13.trans f24).step f34 fun c hc => by rw [List.mem_singleton.1 hc]; exact n2.gone, .inr ⟨fun h => h.2 c, rfl⟩⟩
  ·have c : ¬ (S.pl i).n.org = 0 := by simpa using c
   obtain ⟨s34, w34, o34, f34, n34, _, c34⟩ := o1.wrAll (S.pl i).n.cells rfl rfl
   exact ⟨_, _, _, _, _, _, _, o24.all rfl, s34, w34, _, _, _, _, _, _, _, o34.all rfl, (F13.trans f24).step f34 fun c hc => by rw [List.mem_singleton.1 hc]; exact n2.gone, .inl ⟨⟨hi, c⟩, rfl⟩⟩
 ·simp only [if_neg hi, decide_eq_false hi]
  refine ⟨_, _, _, _, _, _, _, false, rfl, fun m22 s23 n23 => ?_⟩
  obtain ⟨s24, w24, o24, f24, fr24⟩ := n23.put nd0.cells rfl rfl
  have o1 : Own s24 m1 nd0.cells := (n2.own.ext f13).ext f24
  obtain ⟨s34, w34, o34, f34, n34, _, c34⟩ := o1.wrAll nd0.cells rfl rfl
  exact ⟨s24, w24, bsel_of (fun _ => ⟨s34, w34, _, _, _, _, _, _, _, o34.all rfl, (F13.trans f24).step f34 fun c hc => by rw [List.mem_singleton.1 hc]; exact n2.gone, .inr ⟨fun h => hi h.1, rfl⟩⟩) fun c => by simp at c⟩
def PathR (S : FoD) (s s' : St) (i : Int) (r : AV) : Prop := ∃ v L, r = .tuple [v, .int .i64 0] ∧ So legE s' v L.reverse ∧ Gone s v ∧ L.length ≤ 4000 ∧ Tile S i (S.pl i).n.till (S.pl i).n.fr L
set_option maxHeartbeats 1000000 in
theorem Path_ok {s0 s : St} {f : Nat} {B : Int → Nat} {o : Nat → Tg} {S : FoD} {cs : List SpC} (h : Fo s0 s f B o S) (hS : ForS cs S) (hN : S.N.length ≤ 1000) (ht : ∀ i, i ∈ S.N → 0 ≤ (S.C i).t0 ∧ (S.C i).t0 ≤ (S.C i).t1 ∧ (S.C i).t1 ≤ 4611686018427387904) (i : Int) :
  CallsA P F.sweep_Path [.ptr f 0, .int .u64 i] s fun r s' => Frw [] s s' ∧ Fr s' ∧ ((isRoot S i ∧ PathR S s s' i r) ∨ (¬ isRoot S i ∧ r = .tuple [.nilslice, .int .i64 111])) := by
 refine vc.sweep_Path_ok (((CallsD.of fun _ => rooted_ok h i).a).mono ?_)
 rintro _ s2 ⟨⟨f2, ⟨hr, rfl⟩ | ⟨hr, rfl⟩⟩, fr2⟩
 ·refine ⟨_, _, _, _, _, _, _, _, rfl, fun m11 s12 n12 => ?_⟩
  obtain ⟨s13, w13, o13, f13, fr13⟩ := n12.put (S.pl i).n.cells rfl rfl
  have F13 := f2.trans f13
  refine ⟨s13, w13, bsel_of (fun c => by simp at c) fun _ => oneK_ptr fun m14 s15 n15 => ⟨_, (o13.ext n15.fwd).ld1 6 rfl, ?_⟩⟩
  have hP : PathS s13 s15 m14 f .nilslice [] := ⟨n15.own, .nil _ _, .nil _, n15.gone, by simp [blkOf], n15.fwd, n15.fr⟩
  have htr : (S.pl i).n.tree = i := congrArg Tv.tree (node_root hS hr.1 hr.2)
  have hsz := szO_root hS h.nd ((hS.rts i).2 hr)
  have hnb := ndb_of hS ht i hr.1
  refine (back_ok (h.ext F13 fr13) hS hN ht (szO S i) i hr.1 (Nat.le_refl _) hP (Tile.new (T := i)) (Int.le_refl _) htr (by simp only [List.length_nil]; omega)).mono ?_
  rintro _ s18 ⟨rfl, L, ⟨v, P18, F18, N18⟩, hL, hT⟩
  have elo : (if (S.pl i).n.fr < (S.pl i).n.till then (S.pl i).n.fr else (S.pl i).n.till) = (S.pl i).n.fr := by split <;> omega
  rw [elo] at hT
  simp only [List.length_nil] at hL
  refine ⟨rfl, v, P18.own.ld1 1 rfl, ((CallsD.of fun _ => LegRev_ok P18.legs (by omega)).a).mono ?_⟩
  rintro _ s21 ⟨⟨rfl, so21, f21⟩, fr21⟩
  have gv : Gone s v := fun c hc => F13.none (P18.gone c hc) (by simp)
  exact ⟨rfl, v, (P18.own.fwd f21 P18.bv).ld1 1 rfl, (F13.trans P18.fwd).step f21 gv, fr21, .inl ⟨hr, v, L, rfl, so21, gv, by omega, hT⟩⟩
 ·refine ⟨_, _, _, _, _, _, _, _, rfl, fun m11 s12 n12 => ?_⟩
  obtain ⟨s13, w13, o13, f13, fr13⟩ := n12.put nd0.cells rfl rfl
  exact ⟨s13, w13, bsel_of (fun _ => ⟨f2.trans f13, fr13, .inr ⟨hr, rfl⟩⟩) fun c => by simp at c⟩
end
end Go.Eng.S

namespace Go.Eng.S
open Go Go.Eng Go.Proofs
set_option linter.constructorNameAsVariable false
noncomputable section
attribute [local irreducible] bsel
theorem free_ok {s0 s : St} {f : Nat} {B : Int → Nat} {o : Nat → Tg} {S : FoD} (h : Fo s0 s f B o S) (hT : TreeI S) {T : Int} {a : LegC} (ha : LegOk S T a) :
  CallsD P F.spoorlaw12_free [.ptr f 0, .agg a.cells] s fun v s' => v = .bool true ∧ Frw [] s s' := by
 refine CallsD.fr fun hfr => vc.spoorlaw12_free_ok ?_
 intro m1 s2 n2
 refine ⟨_, n2.own.ld1 0 rfl, (CallsD.of fun _ => Children_ok (h.ext n2.fwd n2.fr) hT a.own).mono ?_⟩
 rintro x s5 ⟨⟨⟨hx, _⟩, f5⟩, fr5⟩
 have ek : kidsOf S a.own = S.kd a.own := by unfold kidsOf; rw [if_pos ha.own]; rfl
 rw [ek] at hx
 have o1 := n2.own.ext f5
 have hl := hT.len a.own ha.own
 have hl' : (S.kd a.own).length < 1000000 := hl
 refine ⟨x, rfl, fun i s' m => ∃ q : Nat, i = q ∧ m = (S.kd a.own).length - q ∧ Frw [] s5 s' ∧ Fr s', ⟨_, 0, rfl, rfl, .refl _ _, fr5⟩, ?_⟩
 rintro _ s10 _ ⟨q, rfl, rfl, F10, fr10⟩
 have F : Frw [] s s10 := (n2.fwd.trans f5).trans F10
 refine (hx.ext F10).slen (bsel_of (fun c => ?_) fun _ => ⟨rfl, F⟩)
 have c : q < (S.kd a.own).length := by simpa using c
 have hkd := List.getElem_mem c
 have hkN := (hT.kids a.own ha.own _ hkd).1
 have hfree := ha.free _ hkd
 refine ⟨fun s' _ => Frw [] s10 s' ∧ Fr s', ?_, ?_⟩
 ·refine (hx.ext F10).ixs rfl rfl c fun b1 i1 r1 => ⟨_, r1.ld1 0 rfl, (CallsD.of fun _ => Node_ok (h.ext F fr10) (S.kd a.own)[q]).mono ?_⟩
  rintro _ s18 ⟨⟨rfl, f18⟩, fr18⟩
  simp only [if_pos hkN, decide_eq_true hkN]
  refine ⟨_, _, _, _, _, _, _, true, rfl, fun m27 s28 n28 => ?_⟩
  obtain ⟨s29, w29, o29, f29, fr29⟩ := n28.put (S.pl (S.kd a.own)[q]).n.cells rfl rfl
  have F29 := f18.trans f29
  have o1' := (o1.ext F10).ext F29
  refine ⟨s29, w29, fun d s' _ => d = false ∧ s' = s29, ⟨_, o29.ld1 5 rfl, _, o29.ld1 6 rfl, bsel_of (fun c1 => ⟨_, o29.ld1 5 rfl, _, o1'.ld1 2 rfl, bsel_of (fun c2 => ⟨_, o1'.ld1 1 rfl, _, o29.ld1 6 rfl, 0, ?_, rfl⟩) fun _ => ⟨0, rfl, rfl⟩⟩) fun _ => ⟨0, rfl, rfl⟩⟩, ?_⟩
  ·have c1 : (S.pl (S.kd a.own)[q]).n.fr < (S.pl (S.kd a.own)[q]).n.till := by simpa using c1
   have c2 : (S.pl (S.kd a.own)[q]).n.fr < a.up := by simpa using c2
   have := hfree c1
   exact decide_eq_false fun c3 => this ⟨c2, c3⟩
  ·rintro _ _ _ ⟨rfl, rfl⟩
   exact bsel_of (fun c => by simp at c) fun _ => ⟨0, F29, fr29⟩
 ·rintro s44 _ ⟨F44, fr44⟩
  exact ⟨(S.kd a.own).length - (q + 1), by omega, q + 1, by rw [wrap_i64 (by omega) (by omega)]; omega, rfl, F10.trans F44, fr44⟩
def atR (R : List LegC) (lo : Int) : Nat → Int
 | 0 => lo
 | q + 1 => ((R[q]?).map LegC.up).getD lo
structure TileR (S : FoD) (T hi lo : Int) (R : List LegC) : Prop where
 ok : ∀ a, a ∈ R → LegOk S T a
 fr : ∀ (q : Nat) (h : q < R.length), R[q].fr = atR R lo q
 fin : atR R lo R.length = hi
 adj : ∀ (q : Nat) (h : q + 1 < R.length), R[q].own ≠ R[q + 1].own
theorem Tile.rev {S : FoD} {T hi lo : Int} {L : List LegC} (h : Tile S T hi lo L) : TileR S T hi lo L.reverse where
 ok := fun a ha => h.ok a (List.mem_reverse.1 ha)
 fr := fun q hq => by
  have hq' : q < L.length := by simpa using hq
  rw [List.getElem_reverse]
  cases q with
  | zero => exact h.last _ (by omega) (by omega)
  | succ q =>
   have hq2 : q < L.reverse.length := by omega
   simp only [atR]
   rw [List.getElem?_eq_getElem hq2, List.getElem_reverse]
   simp only [Option.map_some, Option.getD_some]
   have e := h.adj (L.length - 1 - (q + 1)) (by omega)
   rw [e.1]
   congr 1
   congr 1
   omega
 fin := by
  cases hL : L.length with
  | zero =>
   rw [List.length_reverse, hL]
   exact h.nil (List.length_eq_zero_iff.1 hL)
  | succ n =>
   rw [List.length_reverse, hL]
   simp only [atR]
   rw [List.getElem?_reverse (by omega), hL, List.getElem?_eq_getElem (by omega)]
   simp only [Option.map_some, Option.getD_some]
   have := h.first (by omega)
   rw [← this]
   congr 1
   congr 1
   omega
 adj := fun q hq => by
  have hq' : q + 1 < L.length := by simpa using hq
  rw [List.getElem_reverse, List.getElem_reverse]
  have e := (h.adj (L.length - 1 - (q + 1)) (by omega)).2
  intro hh
  refine e (hh.symm.trans ?_)
  congr 1
  congr 1
  omega
theorem fo_facts {l : List SpX} {S : FoD} {s0 s : St} {f : Nat} {B : Int → Nat} {o : Nat → Tg} (hb : BuildOk (l.map SpX.c)) (hF : Fo s0 s f B o S) (hS : ForS (l.map SpX.c) S) :
  S.N.length ≤ 1000 ∧ S.rl.length ≤ 1000 ∧ (∀ i, i ∈ S.N → 0 ≤ (S.C i).t0 ∧ (S.C i).t0 ≤ (S.C i).t1 ∧ (S.C i).t1 ≤ 4611686018427387904) := by
 obtain ⟨h1, h2⟩ := fitB_all hb.1
 have e : S.N.length = l.length := by rw [hS.N]; simp
 have hl : l.length ≤ 1000 := by simpa using h1
 refine ⟨by omega, ?_, fun i hi => ?_⟩
 ·have := nodup_len hS.rsrt.nodup fun x hx => ((hS.rts x).1 hx).1
  omega
 ·rw [hS.N, List.mem_map] at hi
  obtain ⟨c, hc, rfl⟩ := hi
  rw [hS.C c hc]
  have := chk_small (h2 c hc)
  exact ⟨this.2.2.2.2.2.1, this.2.2.2.2.1, this.2.2.2.2.2.2⟩
end
end Go.Eng.S

namespace Go.Eng.S
open Go Go.Eng Go.Proofs Go.RowKit Go.Lib
set_option linter.constructorNameAsVariable false
noncomputable section
attribute [local irreducible] bsel
set_option maxHeartbeats 4000000 in
theorem SweepTiles_ok {x : AV} {l : List SpX} {s : St} (hTab : TabP s) (h : Sl spE s x l) (hA : ∀ a, a ∈ l → a.At s ∧ a.c.lk.length < 9223372036854775808 ∧ a.c.atr.length < 9223372036854775808 ∧ a.c.ev.length < 9223372036854775808) :
  CallsA P F.spoorlaw12_SweepTiles [x] s fun v _ => v = .bool true := by
 refine vc.spoorlaw12_SweepTiles_ok ((alive_ok s).mono ?_)
 rintro _ _ ⟨rfl, rfl⟩
 refine ⟨true, rfl, (Build_ok hTab h hA).mono ?_⟩
 rintro _ s5 (⟨_, rfl, _⟩ | ⟨hb, f, B, o, S, rfl, hF, hS⟩)
 ·refine ⟨_, _, rfl, fun _ _ => False, ⟨fun c s' _ => c = true, bsel_of (fun c => by simp at c) fun _ => bsel_of (fun _ => ⟨0, rfl⟩) fun c => by simp at c, ?_⟩, fun _ _ h => h.elim⟩
  rintro _ s15 _ rfl
  refine bsel_of (fun _ => ⟨fun c _ _ => c = true, bsel_of (fun _ => ⟨0, rfl⟩) fun c => by simp at c, ?_⟩) fun c => by simp at c
  rintro _ _ _ rfl
  rfl
 obtain ⟨hN, hrl, ht⟩ := fo_facts hb hF hS
 have hT := hS.kids
 refine ⟨_, _, rfl, fun s' _ => s' = s5, ⟨fun c s' _ => c = false ∧ s' = s5, bsel_of (fun c => by simp at c) fun _ => bsel_of (fun c => by simp at c) fun _ => ⟨0, rfl, rfl⟩, ?_⟩, ?_⟩
 ·rintro _ _ _ ⟨rfl, rfl⟩
  exact bsel_of (fun c => by simp at c) fun _ => ⟨0, rfl⟩
 rintro s25 _ rfl
 refine ((CallsD.of fun _ => Roots_ok hF hT.hid (fun i hi => ((hS.rts i).1 hi).1) (by omega)).a).mono ?_
 rintro y s28 ⟨⟨⟨hy, _⟩, f28⟩, fr28⟩
 refine ⟨y, rfl, fun i s' m => ∃ q : Nat, i = q ∧ m = S.rl.length - q ∧ Frw [] s28 s' ∧ Fr s', ⟨_, 0, rfl, rfl, .refl _ _, fr28⟩, ?_⟩
 rintro _ s33 _ ⟨q, rfl, rfl, F33, fr33⟩
 refine (hy.ext F33).slen (bsel_of (fun c => ?_) fun _ => rfl)
 have c : q < S.rl.length := by simpa using c
 have hr := (hS.rts _).1 (List.getElem_mem c)
 generalize hi' : S.rl[q] = i at hr
 have hF33 := (hF.ext f28 fr28).ext F33 fr33
 refine (hy.ext F33).ixs rfl rfl c fun b1 i1 r1 => ?_
 rw [hi'] at r1
 refine ⟨_, r1.ld1 0 rfl, ((CallsD.of fun _ => Node_ok hF33 i).a).mono ?_⟩
 rintro _ s40 ⟨⟨rfl, f40⟩, fr40⟩
 simp only [if_pos hr.1, decide_eq_true hr.1]
 refine ⟨_, _, _, _, _, _, _, true, rfl, fun m49 s50 n50 => ?_⟩
 obtain ⟨s51, w51, o51, f51, fr51⟩ := n50.put (S.pl i).n.cells rfl rfl
 have F51 := f40.trans f51
 refine ⟨s51, w51, ?_⟩
 refine ((hy.ext F33).ext F51).ixs rfl rfl c fun b2 i2 r2 => ?_
 rw [hi'] at r2
 refine ⟨_, r2.ld1 0 rfl, (Path_ok (hF33.ext F51 fr51) hS hN ht i).mono ?_⟩
 rintro _ s56 ⟨F56, fr56, ⟨_, z, L, rfl, so, _, hL4, hTi⟩ | ⟨hn, _⟩⟩
 rotate_left
 ·exact absurd hr hn
 have hR := hTi.rev
 have hRl : L.reverse.length ≤ 4000 := by simpa using hL4
 generalize L.reverse = R at so hR hRl
 have hz : Sl legE s56 z R := so.sl
 have o56 := o51.ext F56
 have hF56 := (hF33.ext F51 fr51).ext F56 fr56
 have hy56 := ((hy.ext F33).ext F51).ext F56
 have F5 : Frw [] s28 s56 := (F33.trans F51).trans F56
 refine ⟨z, _, rfl, _, o56.ld1 5 rfl, bsel_of (fun c => by simp at c) fun _ => ?_⟩
 refine ⟨fun a k s' m => ∃ p : Nat, k = p ∧ m = R.length - p ∧ p ≤ R.length ∧ a = atR R (S.pl i).n.fr p ∧ Frw [] s56 s' ∧ Fr s', ⟨_, 0, rfl, rfl, by omega, rfl, .refl _ _, fr56⟩, ?_⟩
 rintro _ _ s64 _ ⟨p, rfl, rfl, hp, rfl, F64, fr64⟩
 have hz64 := hz.ext F64
 have hF64 := hF56.ext F64 fr64
 have hy64 := hy56.ext F64
 refine hz64.slen (bsel_of (fun cp => ?_) fun cp => ?_)
 rotate_left
 ·have cp : ¬ p < R.length := by simpa using cp
  have cp : p = R.length := by omega
  subst cp
  refine ⟨_, (o56.ext F64).ld1 6 rfl, bsel_of (fun c => ?_) fun _ => ⟨S.rl.length - (q + 1), by omega, q + 1, by rw [wrap_i64 (by omega) (by omega)]; omega, rfl, F5.trans F64, fr64⟩⟩
  rw [hR.fin] at c
  simp at c
 have cp : p < R.length := by simpa using cp
 have hok := hR.ok _ (List.getElem_mem cp)
 have hfr := hR.fr p cp
 have hfrb := hok.fr
 have hupb := hok.up
 have hlt := hok.lt
 refine ⟨fun a s' _ => a = R[p].up ∧ Frw [] s64 s' ∧ Fr s', ?_, ?_⟩
 rotate_left
 ·rintro _ s156 _ ⟨rfl, F156, fr156⟩
  refine ⟨R.length - (p + 1), by omega, p + 1, by rw [wrap_i64 (by omega) (by omega)]; omega, rfl, by omega, ?_, F64.trans F156, fr156⟩
  simp only [atR]
  rw [List.getElem?_eq_getElem cp]
  rfl
 refine hz64.ixs (E := legE) rfl rfl cp fun b3 i3 r3 => ⟨_, r3.ld1 0 rfl, ((CallsD.of fun _ => Node_ok hF64 R[p].own).a).mono ?_⟩
 rintro _ s72 ⟨⟨rfl, f72⟩, fr72⟩
 simp only [if_pos hok.own, decide_eq_true hok.own]
 refine ⟨_, _, _, _, _, _, _, true, rfl, fun m81 s82 n82 => ?_⟩
 obtain ⟨s83, w83, o83, f83, fr83⟩ := n82.put (S.pl R[p].own).n.cells rfl rfl
 have F83 := f72.trans f83
 refine ⟨s83, w83, fun s' _ => Frw [] s64 s' ∧ Fr s', ⟨fun d s' _ => d = false ∧ Frw [] s64 s' ∧ Fr s', fun s86 b86 => ?_, ?_⟩, ?_⟩
 ·have o86 := o83.ext b86.fwd
  have F86 := F83.trans b86.fwd
  have hz86 := hz64.ext F86
  refine bsel_of (fun c => by simp at c) fun _ => ⟨_, o86.ld1 3 rfl, ?_⟩
  refine (hy64.ext F86).ixs rfl rfl c fun b4 i4 r4 => ?_
  rw [hi'] at r4
  refine ⟨_, r4.ld1 0 rfl, bsel_of (fun c => ?_) fun _ => ?_⟩
  ·rw [hok.tree] at c; simp at c
  refine hz86.ixs (E := legE) rfl rfl cp fun b5 i5 r5 => ⟨_, r5.ld1 1 rfl, bsel_of (fun c => ?_) fun _ => ?_⟩
  ·rw [hfr] at c; simp at c
  refine hz86.ixs (E := legE) rfl rfl cp fun b6 i6 r6 => ⟨_, r6.ld1 2 rfl, bsel_of (fun c => ?_) fun _ => ?_⟩
  ·have c : R[p].up ≤ atR R (S.pl i).n.fr p := by simpa using c
   omega
  refine hz86.ixs (E := legE) rfl rfl cp fun b7 i7 r7 => ⟨_, r7.ld1 1 rfl, _, o86.ld1 5 rfl, bsel_of (fun c => ?_) fun _ => ?_⟩
  ·have c : R[p].fr < (S.pl R[p].own).n.fr := by simpa using c
   omega
  refine hz86.ixs (E := legE) rfl rfl cp fun b8 i8 r8 => ⟨_, r8.ld1 2 rfl, _, o86.ld1 6 rfl, 0, ?_, F86, b86.fr⟩
  exact decide_eq_false (by omega)
 ·rintro _ s112 _ ⟨rfl, F112, fr112⟩
  exact bsel_of (fun c => by simp at c) fun _ => ⟨0, F112, fr112⟩
 rintro s115 _ ⟨F115, fr115⟩
 refine ⟨fun s' _ => Frw [] s64 s' ∧ Fr s', ⟨fun d s' _ => d = false ∧ Frw [] s64 s' ∧ Fr s', fun s119 b119 => ?_, ?_⟩, ?_⟩
 ·have F119 := F115.trans b119.fwd
  have hz119 := hz64.ext F119
  have hF119 := hF64.ext F119 b119.fr
  have hfree : CallsD P F.spoorlaw12_free [.ptr f 0, .agg R[p].cells] s119 fun x132 s133 => ∃ c134, x132 = .bool c134 ∧ ∃ m135 : Nat, (!c134) = false ∧ Frw [] s64 s133 ∧ Fr s133 := by
   refine (CallsD.of fun _ => free_ok hF119 hT hok).mono ?_
   rintro _ s133 ⟨⟨rfl, f133⟩, fr133⟩
   exact ⟨true, rfl, 0, rfl, F119.trans f133, fr133⟩
  refine bsel_of (fun c0 => ?_) fun _ => ?_
  ·have c0 : 0 < p := by
    have : (p : Int) > 0 := by simpa using c0
    omega
   obtain ⟨p', rfl⟩ : ∃ p', p = p' + 1 := ⟨p - 1, by omega⟩
   have cp' : p' < R.length := by omega
   refine hz119.ixs (E := legE) rfl (show IntKind.wrap .i64 (((p' + 1 : Nat) : Int) - 1) = (p' : Int) by rw [wrap_i64 (by omega) (by omega)]; omega) cp' fun b9 i9 r9 => ⟨_, r9.ld1 0 rfl, ?_⟩
   refine hz119.ixs (E := legE) rfl rfl cp fun b10 i10 r10 => ⟨_, r10.ld1 0 rfl, bsel_of (fun c => ?_) fun _ => ?_⟩
   ·have c : R[p'].own = R[p' + 1].own := by simpa using c
    exact absurd c (hR.adj p' cp)
   refine hz119.ixs (E := legE) rfl rfl cp fun b11 i11 r11 => ⟨_, _, _, r11.all rfl, hfree⟩
  ·refine hz119.ixs (E := legE) rfl rfl cp fun b11 i11 r11 => ⟨_, _, _, r11.all rfl, hfree⟩
 ·rintro _ s146 _ ⟨rfl, F146, fr146⟩
  exact bsel_of (fun c => by simp at c) fun _ => ⟨0, F146, fr146⟩
 rintro s149 _ ⟨F149, fr149⟩
 exact (hz64.ext F149).ixs (E := legE) rfl rfl cp fun b12 i12 r12 => ⟨_, r12.ld1 2 rfl, 0, rfl, F149, fr149⟩
theorem SweepTiles_walk {H : Type} {enc : TypeId × Value → H} {w : World} {base : Nat} {held : Bool} {fuel : Nat} {v : Value} {x : DataW H × List MemPlace} (hT : TabsW 0 1 w) (h : DataW.trod enc P w base (fun _ => true) held fuel T.sl_api_Span [v] = some x) :
  Calls P F.spoorlaw12_SweepTiles #[v] w fun e w' => e = .returned (.bool true) ∧ Below w.heap.size w w' := by
 obtain ⟨a, l, h1, h2, h3, _⟩ := spans_read hT h
 exact CallsA.topT hT (SweepTiles_ok (stT_tabs hT) h2 h3) (.cons (absT_ok h1) .nil)
end
end Go.Eng.S

