/-
  Lists that are marked, and grown while they live on; make with a number that is not known; copies.
  Lists that came out are their owner's: all are marked, all are grown, all are looked at.
  A call that hands back two lists of its own, as one thing.
  Slices that are cut in two.
-/
import Derived.Test.YthjagnpghdcbcaaGreatDoorW15to27
import Derived.Test.YthjagnpghdcbcaaGreatDoorW5to7
namespace Go.Eng
noncomputable section
variable {P : Program} {D : Tab} {α : Type}
def RoomS (z n : Nat) (cap : ACap) (tl : Option (Nat × Nat)) : Prop := (∃ k, cap = .var k 0 ∧ tl = some (k, z)) ∨ (cap = .exact n ∧ tl = none)
def MkP (E : Enc α) (s : St) (x : AV) (n k : Nat) (a : α) : Prop :=
 (x = .nilslice ∧ n = 0) ∨ ∃ b cap c tl, x = .slice b 0 n cap ∧ s.h.get b = some (.cells c (n * E.z) tl) ∧ (∀ i, i < k * E.z → c.get i = (E.f a)[i % E.z]?) ∧ RoomS E.z n cap tl
def Mk (E : Enc α) (s : St) (x : AV) (n : Nat) (a : α) : Prop :=
 (x = .nilslice ∧ n = 0) ∨ ∃ b cap c N tl, x = .slice b 0 n cap ∧ s.h.get b = some (.cells c N tl) ∧ n * E.z ≤ N ∧ (∀ i, i < N → c.get i = (E.f a)[i % E.z]?) ∧ RoomS E.z n cap tl
theorem MkP.mk {E : Enc α} {s : St} {x : AV} {n : Nat} {a : α} (h : MkP E s x n n a) : Mk E s x n a := by
 rcases h with h | ⟨b, cap, c, tl, h1, h2, h3, h4⟩
 ·exact .inl h
 ·exact .inr ⟨b, cap, c, _, tl, h1, h2, Nat.le_refl _, h3, h4⟩
theorem So.mkP {E : Enc α} {s : St} {x : AV} {l : List α} (h : So E s x l) (a : α) : MkP E s x l.length 0 a := by
 have hlen := h.sl.len
 rcases h with ⟨rfl, h2⟩ | ⟨b, k, n, c, rfl, h1, h2, h3⟩
 ·simp only [slLen, Option.some.injEq] at hlen
  exact .inl ⟨rfl, hlen.symm⟩
 ·have hn : n = l.length := by simpa [slLen] using hlen
  subst hn
  exact .inr ⟨b, _, c, _, rfl, h2, fun i hi => by omega, .inl ⟨k, rfl, rfl⟩⟩
theorem Own.mkP {E : Enc α} {s : St} {b n : Nat} {cs : List AV} (h : Own s b cs) (hn : cs.length = n * E.z) (a : α) : MkP E s (.slice b 0 n (.exact n)) n 0 a := by
 obtain ⟨c, h1, h2⟩ := h
 rw [hn] at h1
 exact .inr ⟨b, _, c, _, rfl, h1, fun i hi => by omega, .inr ⟨rfl, rfl⟩⟩
theorem MkP.len {E : Enc α} {s : St} {x : AV} {n k : Nat} {a : α} (h : MkP E s x n k a) : slLen x = some n := by
 rcases h with ⟨rfl, rfl⟩ | ⟨b, cap, c, tl, rfl, _⟩ <;> rfl
theorem Mk.len {E : Enc α} {s : St} {x : AV} {n : Nat} {a : α} (h : Mk E s x n a) : slLen x = some n := by
 rcases h with ⟨rfl, rfl⟩ | ⟨b, cap, c, N, tl, rfl, _⟩ <;> rfl
theorem MkP.beside {E : Enc α} {s s' : St} {x : AV} {n k : Nat} {a : α} {M : List Nat} (h : MkP E s x n k a) (hf : Frw M s s') (hM : ∀ c, c ∈ M → c ∉ blkOf x) : MkP E s' x n k a := by
 rcases h with h | ⟨b, cap, c, tl, rfl, h2, h3⟩
 ·exact .inl h
 ·exact .inr ⟨b, cap, c, tl, rfl, hf.1 _ _ (fun hc => hM _ hc (by simp [blkOf])) h2, h3⟩
theorem Mk.beside {E : Enc α} {s s' : St} {x : AV} {n : Nat} {a : α} {M : List Nat} (h : Mk E s x n a) (hf : Frw M s s') (hM : ∀ c, c ∈ M → c ∉ blkOf x) : Mk E s' x n a := by
 rcases h with h | ⟨b, cap, c, N, tl, rfl, h2, h3⟩
 ·exact .inl h
 ·exact .inr ⟨b, cap, c, N, tl, rfl, hf.1 _ _ (fun hc => hM _ hc (by simp [blkOf])) h2, h3⟩
theorem Mk.there {E : Enc α} {s : St} {x : AV} {n : Nat} {a : α} (h : Mk E s x n a) : ∀ c, c ∈ blkOf x → s.h.get c ≠ none := by
 rcases h with ⟨rfl, _⟩ | ⟨b, cap, c, N, tl, rfl, h2, h3⟩
 ·simp [blkOf]
 ·intro c hc
  have : c = b := by simpa [blkOf] using hc
  rw [this, h2]; simp
theorem MkP.there {E : Enc α} {s : St} {x : AV} {n k : Nat} {a : α} (h : MkP E s x n k a) : ∀ c, c ∈ blkOf x → s.h.get c ≠ none := by
 rcases h with ⟨rfl, _⟩ | ⟨b, cap, c, tl, rfl, h2, h3⟩
 ·simp [blkOf]
 ·intro c hc
  have : c = b := by simpa [blkOf] using hc
  rw [this, h2]; simp
theorem mod_at {z k j : Nat} (h1 : k * z ≤ j) (h2 : j < k * z + z) : j % z = j - k * z := by
 obtain ⟨d, rfl⟩ : ∃ d, j = k * z + d := ⟨j - k * z, by omega⟩
 rw [Nat.mul_add_mod_self_right, Nat.mod_eq_of_lt (by omega)]
 omega
theorem MkP.put {E : Enc α} {s : St} {x : AV} {n k : Nat} {a : α} (h : MkP E s x n k a) {z : Nat} (hz : z = E.z) {i : Int} (hi : i = (k : Int)) (hk : k < n) {vs : List AV} (hv : ones vs = true) (ha : vs = E.f a) {K : Nat → Nat → Prop}
  (hK : ∀ b o s', blkOf x = [b] → wrN s (.ptr b o) vs = some s' → MkP E s' x n (k + 1) a → Frw [b] s s' → s'.nx = s.nx → (∀ c, c ≠ b → s'.h.get c = s.h.get c) → K b o) : ixsK z x i K := by
 subst hz; subst hi; subst ha
 rcases h with ⟨rfl, rfl⟩ | ⟨b, cap, c, tl, rfl, h1, h2, h3⟩
 ·omega
 ·refine ⟨by omega, by omega, ?_⟩
  rw [mulS_eq, Int.toNat_natCast, Nat.zero_add]
  have hmul : (k + 1) * E.z ≤ n * E.z := Nat.mul_le_mul_right _ (by omega)
  rw [Nat.add_mul, Nat.one_mul] at hmul
  have hl := E.len a
  have hb : Nat.ble (k * E.z + (E.f a).length) (n * E.z) = true := by rw [Nat.ble_eq]; omega
  have hwr : wr tl = true := by
   rcases h3 with ⟨k', _, rfl⟩ | ⟨_, rfl⟩
   ·have := E.pos
    cases h : E.z with
    | zero => omega
    | succ => rfl
   ·rfl
  refine hK b _ { s with h := s.h.set b (.cells (c.setAll (k * E.z) (E.f a)) (n * E.z) tl) } (by simp [blkOf]) ?_ (.inr ⟨b, cap, c.setAll (k * E.z) (E.f a), tl, rfl, by simp [PT.get_set_same], fun i hi => ?_, h3⟩) ⟨fun d o hd hx => ?_, Nat.le_refl _, rfl⟩ rfl fun d hd => by simp [PT.get_set, hd]
  ·simp only [wrN, writeAll, h1, hv, hb, hwr, Bool.and_self, if_true]
  ·rw [Nat.add_mul, Nat.one_mul] at hi
   rw [PT.get_setAll]
   by_cases hin : k * E.z ≤ i ∧ i < k * E.z + (E.f a).length
   ·rw [if_pos hin, mod_at hin.1 (by omega)]
   ·rw [if_neg hin]
    exact h2 i (by omega)
  ·have : d ≠ b := by simpa using hd
   simp [PT.get_set, this, hx]
theorem Mk.at {E : Enc α} {s : St} {x : AV} {n : Nat} {a : α} (h : Mk E s x n a) {z : Nat} (hz : z = E.z) {i : Int} {k : Nat} (hi : i = (k : Int)) (hk : k < n) {K : Nat → Nat → Prop} (hK : ∀ b o, Rd s b o (E.f a) → K b o) : ixsK z x i K := by
 subst hz; subst hi
 rcases h with ⟨rfl, rfl⟩ | ⟨b, cap, c, N, tl, rfl, h1, h2, h3, h4⟩
 ·omega
 ·refine ⟨by omega, by omega, ?_⟩
  rw [mulS_eq, Int.toNat_natCast, Nat.zero_add]
  have hmul : (k + 1) * E.z ≤ n * E.z := Nat.mul_le_mul_right _ (by omega)
  rw [Nat.add_mul, Nat.one_mul] at hmul
  have hl := E.len a
  refine hK b _ ⟨c, N, tl, h1, by omega, getAll_of rfl fun i hi => ?_⟩
  rw [h3 _ (by omega), mod_at (k := k) (by omega) (by omega)]
  congr 1; omega
def ColS (col : Nat → Option Nat) (x : AV) (i : Option Nat) : Prop := ∀ c, c ∈ blkOf x → col c = i
def GrowC (E : Enc α) (mark : Nat → α) (col : Nat → Option Nat) (s : St) (col' : Nat → Option Nat) (s' : St) : Prop :=
 (∀ y m j, Mk E s y m (mark j) → ColS col y (some j) → Mk E s' y m (mark j) ∧ ColS col' y (some j)) ∧ (∀ c o, s.h.get c = some o → col c = none → s'.h.get c = some o ∧ col' c = none) ∧ s.nx ≤ s'.nx ∧ s'.fs = s.fs
theorem GrowC.refl (E : Enc α) (mark : Nat → α) (col : Nat → Option Nat) (s : St) : GrowC E mark col s col s := ⟨fun _ _ _ h1 h2 => ⟨h1, h2⟩, fun _ _ h1 h2 => ⟨h1, h2⟩, Nat.le_refl _, rfl⟩
theorem GrowC.trans {E : Enc α} {mark : Nat → α} {c1 c2 c3 : Nat → Option Nat} {s1 s2 s3 : St} (h : GrowC E mark c1 s1 c2 s2) (h' : GrowC E mark c2 s2 c3 s3) : GrowC E mark c1 s1 c3 s3 :=
 ⟨fun y m j a b => let ⟨a', b'⟩ := h.1 y m j a b; h'.1 y m j a' b', fun c o a b => let ⟨a', b'⟩ := h.2.1 c o a b; h'.2.1 c o a' b', Nat.le_trans h.2.2.1 h'.2.2.1, h'.2.2.2.trans h.2.2.2⟩
theorem GrowC.new {E : Enc α} {mark : Nat → α} {col : Nat → Option Nat} {s s' : St} (hf : Frw [] s s') (hfr : Fr s) : GrowC E mark col s (fun c => if c < s.nx then col c else none) s' := by
 refine ⟨fun y m j a b => ⟨a.beside hf (by simp), fun c hc => ?_⟩, fun c o a b => ⟨hf.1 c o (by simp) a, ?_⟩, hf.2.1, hf.2.2⟩
 ·have := hfr.lt (a.there c hc)
  simp only [this, if_true]
  exact b c hc
 ·have := hfr.lt (b := c) (by rw [a]; simp)
  simp only [this, if_true]
  exact b
theorem Mk.app {E : Enc α} {mark : Nat → α} {col : Nat → Option Nat} {s : St} {x : AV} {n j : Nat} {e : List AV} {t et : TypeId} {ti ei : TyI} {m : Nat} {zv : AV} (h : Mk E s x n (mark j)) (hcol : ColS col x (some j)) (hti : D.ty.get t = some ti) (hd : ti.d = .slice et) (hei : D.ty.get et = some ei) (hsz : ei.size = E.z) (hzv : ei.zero = some zv) (hzl : zv.cells.length = E.z)
  (h1 : ones e = true) (hR : Rd s m 0 e) (he : e = E.f (mark j)) (hb : (n + 1 + (n + 1) / 4 + 600) * ei.bytes ≤ pow48) (hbz : n + 1 ≤ pow48) (hfr : Fr s) {K : AV → St → Prop}
  (hK : ∀ v s' col', Mk E s' v (n + 1) (mark j) → ColS col' v (some j) → GrowC E mark col s col' s' → Fr s' → K v s') : appK D s t t x (.slice m 0 1 (.exact 1)) K := by
 subst he
 have hl := E.len (mark j)
 obtain ⟨c0, n0, tl0, r1, r2, r3⟩ := hR
 have hy1 : sliceCells s.h E.z (.slice m 0 1 (.exact 1)) = some (E.f (mark j)) := by
  have : Nat.ble (0 + 1 * E.z) n0 = true := by rw [Nat.ble_eq]; omega
  simp only [sliceCells, r1, this, if_true]
  rw [Nat.one_mul, ← hl]; exact r3
 have hzb : Nat.beq zv.cells.length E.z = true := by rw [hzl, Nat.beq_refl]
 have hz0 := E.pos
 have q1 : Nat.ble ((n + 1 + (n + 1) / 4 + 600) * ei.bytes) pow48 = true := by rw [Nat.ble_eq]; exact hb
 have q2 : Nat.ble (n + 1) pow48 = true := by rw [Nat.ble_eq]; exact hbz
 have grow : ∀ old : List AV, old.length = n * E.z → (∀ i, i < n * E.z → old[i]? = (E.f (mark j))[i % E.z]?) → K (growA s s.h E.z (n + 1) (old ++ E.f (mark j))).1 (growA s s.h E.z (n + 1) (old ++ E.f (mark j))).2 := by
  intro old ho hg
  have hf : Frw [] s (growA s s.h E.z (n + 1) (old ++ E.f (mark j))).2 := ⟨fun c o hc ho => by
   have : c ≠ s.nx := by rintro rfl; rw [hfr _ (Nat.le_refl _)] at ho; simp at ho
   simp [growA, PT.get_set, this]; exact ho, by simp [growA], rfl⟩
  have hG := GrowC.new (E := E) (mark := mark) (col := col) hf hfr
  refine hK _ _ (fun c => if c = s.nx then some j else if c < s.nx then col c else none) (.inr ⟨s.nx, .var s.nc 0, PT.setAll .nil 0 (old ++ E.f (mark j)), (n + 1) * E.z, some (s.nc, E.z), rfl, by simp only [growA, PT.get_set_same], Nat.le_refl _, fun i hi => ?_, .inl ⟨_, rfl, rfl⟩⟩) (fun c hc => ?_) ⟨fun y m j' a b => ?_, fun c o a b => ?_, hG.2.2⟩ (growA_gro hfr (fun _ h => h) _ _ _).1
  ·rw [PT.get_setAll, if_pos (by simp only [List.length_append, ho, hl]; rw [Nat.add_mul] at hi; omega), Nat.sub_zero]
   by_cases hin : i < n * E.z
   ·rw [List.getElem?_append_left (by omega)]; exact hg i hin
   ·rw [Nat.add_mul, Nat.one_mul] at hi
    rw [List.getElem?_append_right (by omega), ho, mod_at (k := n) (by omega) (by omega)]
  ·have : c = s.nx := by simpa [growA, blkOf] using hc
   simp [this]
  ·obtain ⟨a', b'⟩ := hG.1 y m j' a b
   refine ⟨a', fun c hc => ?_⟩
   have := hfr.lt (a.there c hc)
   have hne : c ≠ s.nx := by omega
   simp only [hne, if_false]
   exact b' c hc
  ·have := hfr.lt (b := c) (by rw [a]; simp)
   have hne : c ≠ s.nx := by omega
   obtain ⟨a', b'⟩ := hG.2.1 c o a b
   exact ⟨a', by simp only [hne, if_false]; exact b'⟩
 rcases h with ⟨rfl, rfl⟩ | ⟨b, cap, c, N, tl, rfl, g1, g2, g3, g4⟩
 ·refine .inl ⟨_, _, ?_, grow [] (by simp) (fun i hi => by omega)⟩
  rw [show appendX D s t t .nilslice (.slice m 0 1 (.exact 1)) = appendA D s t t .nilslice (.slice m 0 1 (.exact 1)) from rfl]
  simp only [appendA, hti, hd, hei, hzv, isSeq, hsz, hzb, Bool.and_self, if_true, appendB, avLen, hy1]
  simp only [sliceCells, q1, q2, Bool.and_self, if_true, appendC, List.nil_append, Nat.zero_add]
 ·obtain ⟨old, ho, hol, hog⟩ : ∃ old, c.getAll 0 (n * E.z) = some old ∧ old.length = n * E.z ∧ ∀ i, i < n * E.z → old[i]? = (E.f (mark j))[i % E.z]? := by
   let old : List AV := (List.range (n * E.z)).map fun i => ((E.f (mark j))[i % E.z]?).getD .undef
   have hgo : ∀ i, i < n * E.z → old[i]? = (E.f (mark j))[i % E.z]? := fun i hi => by
    have : i % E.z < (E.f (mark j)).length := by rw [hl]; exact Nat.mod_lt _ hz0
    simp only [old, List.getElem?_map, List.getElem?_range hi, Option.map_some]
    rw [List.getElem?_eq_getElem this]
    rfl
   have hlo : old.length = n * E.z := by simp [old]
   exact ⟨old, getAll_of hlo fun i hi => by rw [Nat.zero_add, g3 i (by omega), hgo i hi], hlo, hgo⟩
  have hx1 : sliceCells s.h E.z (.slice b 0 n cap) = some old := by
   have : Nat.ble (0 + n * E.z) N = true := by rw [Nat.ble_eq]; omega
   simp only [sliceCells, g1, this, if_true]
   exact ho
  rcases g4 with ⟨k, rfl, rfl⟩ | ⟨rfl, rfl⟩
  ·refine .inr ⟨(.slice b 0 (n + 1) (.var k 0), growIn s b c N k E.z (n * E.z) (E.f (mark j))), growA s s.h E.z (n + 1) (old ++ E.f (mark j)), ?_, ?_, grow old hol hog⟩
   ·have hz1 : Nat.blt 0 E.z = true := by rw [Nat.blt_eq]; exact hz0
    have h01 : Nat.blt 0 1 = true := rfl
    simp only [appTwo, hti, hd, hei, hzv, hsz, avLen, hx1, hy1, g1, isSeq, hzb, Nat.beq_refl, h1, q1, q2, hz1, h01, Bool.and_self, if_true]
   ·have hget : ∀ d, d ≠ b → (growIn s b c N k E.z (n * E.z) (E.f (mark j))).h.get d = s.h.get d := fun d hd => by simp [growIn, PT.get_set, hd]
    have hper : ∀ i, i < max N (n * E.z + (E.f (mark j)).length) → (c.setAll (n * E.z) (E.f (mark j))).get i = (E.f (mark j))[i % E.z]? := by
     intro i hi
     rw [PT.get_setAll]
     by_cases hin : n * E.z ≤ i ∧ i < n * E.z + (E.f (mark j)).length
     ·rw [if_pos hin, mod_at hin.1 (by omega)]
     ·rw [if_neg hin]; exact g3 i (by omega)
    refine hK _ _ col (.inr ⟨b, _, _, _, _, rfl, by simp only [growIn, PT.get_set_same], by rw [hl, Nat.add_mul, Nat.one_mul]; omega, hper, .inl ⟨k, rfl, rfl⟩⟩) (fun d hd => hcol d (by simpa [blkOf] using hd)) ⟨fun y q j' a b' => ⟨?_, b'⟩, fun d o a b' => ⟨?_, b'⟩, by simp [growIn], rfl⟩ ?_
    ·rcases a with a | ⟨b2, cap2, c2, N2, tl2, rfl, a1, a2, a3, a4⟩
     ·exact .inl a
     ·by_cases e : b2 = b
      ·subst e
       rw [g1] at a1
       simp only [Option.some.injEq, AObj.cells.injEq] at a1
       obtain ⟨rfl, rfl, rfl⟩ := a1
       have : j' = j := by
        have q1 := b' b2 (by simp [blkOf])
        have q2 := hcol b2 (by simp [blkOf])
        rw [q1] at q2
        simpa using q2
       subst this
       exact .inr ⟨b2, cap2, _, _, _, rfl, by simp only [growIn, PT.get_set_same], by omega, hper, a4⟩
      ·exact .inr ⟨b2, cap2, c2, N2, tl2, rfl, by rw [hget _ e]; exact a1, a2, a3, a4⟩
    ·have e : d ≠ b := by
      rintro rfl
      have := hcol d (by simp [blkOf])
      rw [this] at b'
      simp at b'
     rw [hget _ e]; exact a
    ·intro d hd
     have hdn : s.nx ≤ d := by simpa [growIn] using hd
     have e : d ≠ b := by
      rintro rfl
      have := hfr d hdn
      rw [g1] at this
      simp at this
     rw [hget _ e]; exact hfr d hdn
  ·refine .inl ⟨_, _, ?_, grow old hol hog⟩
   rw [show appendX D s t t (.slice b 0 n (.exact n)) (.slice m 0 1 (.exact 1)) = appendA D s t t (.slice b 0 n (.exact n)) (.slice m 0 1 (.exact 1)) from rfl]
   have hnb : Nat.ble (n + 1) n = false := by
    rw [← Bool.not_eq_true, Nat.ble_eq]; omega
   simp only [appendA, hti, hd, hei, hzv, isSeq, hsz, hzb, Bool.and_self, if_true, appendB, avLen, hx1, hy1, q1, q2, appendC, hnb]
theorem makeSlice_of {s : St} {t et : TypeId} {ti ei : TyI} {zv : AV} {k k' : IntKind} {n m : Int} (hti : D.ty.get t = some ti) (hd : ti.d = .slice et) (hei : D.ty.get et = some ei) (hzv : ei.zero = some zv) (hzl : zv.cells.length = ei.size)
  (h0 : 0 ≤ n) (h1 : n ≤ m) (h2 : m ≤ 281474976710656) (hb : ei.bytes * m.toNat ≤ pow48) (hfr : Fr s) :
  ∃ s', makeSliceA D s t (.int k n) (.int k' m) = some (.slice s.nx 0 n.toNat (.exact m.toNat), s') ∧ NewO s (cellsO (zeros zv.cells m.toNat)) s.nx s' := by
 have hzb : Nat.beq zv.cells.length ei.size = true := by rw [hzl, Nat.beq_refl]
 have q1 : Nat.ble (ei.bytes * m.toNat) pow48 = true := by rw [Nat.ble_eq]; exact hb
 refine ⟨_, ?_, rfl, rfl, hfr⟩
 simp only [makeSliceA, hti, hd, hei, hzv]
 rw [if_pos (by simp [h0, h1, h2, q1, hzb])]
 rfl
theorem copy_of {E : Enc α} {s : St} {b N : Nat} {cap : ACap} {cs : List AV} {y : AV} {l : List α} {t et : TypeId} {ti ei : TyI} (hti : D.ty.get t = some ti) (hd : ti.d = .slice et) (hei : D.ty.get et = some ei) (hsz : ei.size = E.z)
  (h : Own s b cs) (hcs : cs.length = N * E.z) (hy : Sl E s y l) (hl : l.length ≤ N) (h1 : ∀ a, a ∈ l → ones (E.f a) = true) :
  ∃ s', copyA D s t (.slice b 0 N cap) y = some (.int .i64 l.length, s') ∧ Own s' b (splice cs 0 (l.flatMap E.f)) ∧ Frw [b] s s' ∧ s'.nx = s.nx ∧ (∀ c, c ≠ b → s'.h.get c = s.h.get c) := by
 obtain ⟨y1, y2⟩ := sliceCells_of hy
 have hones : ones (l.flatMap E.f) = true := by
  clear hy y1 y2 hl
  induction l with
  | nil => rfl
  | cons a r ih =>
   have h2 := h1 a (List.mem_cons_self ..)
   have ih := ih fun b hb => h1 b (List.mem_cons_of_mem _ hb)
   rw [List.flatMap_cons]
   generalize E.f a = c at h2
   clear h1
   induction c with
   | nil => exact ih
   | cons u c ihc =>
    cases u <;> first | exact ihc (by simpa [ones] using h2) | simp [ones] at h2
 have hlen : (l.flatMap E.f).length ≤ cs.length := by rw [E.flat_len, hcs]; exact Nat.mul_le_mul_right _ hl
 obtain ⟨s', w1, w2, w3, w4, w5, w6⟩ := h.wrN 0 (l.flatMap E.f) hones (by omega)
 refine ⟨s', ?_, w2, w3, w4, w6⟩
 have hf : firstA s.h E.z l.length y = some (l.flatMap E.f) := by
  have hn := hy.len
  rcases hy with ⟨q1, q2⟩ | ⟨b', o', n', cap', rfl, q1, d, N', tl, g1, g2, g3⟩
  ·rw [slZero_len q1] at hn
   simp only [Option.some.injEq] at hn
   rw [q2, ← hn]
   cases y <;> simp [slZero] at q1 <;> rfl
  ·rw [E.flat_len] at q1 g2
   have hb : Nat.ble (o' + l.length * E.z) N' = true := by rw [Nat.ble_eq]; exact g2
   simp only [firstA, g1, hb, if_true]
   rw [← E.flat_len]; exact g3
 have hw : writeAll s b 0 (l.flatMap E.f) = some s' := w1
 have hx : avLen (.slice b 0 N cap) = some N := rfl
 simp only [copyA, hti, hd, hei, hsz, hx, y2, hf, hw, Nat.min_eq_left hl]
end
end Go.Eng

namespace Go.Eng
noncomputable section
variable {P : Program} {D : Tab} {α : Type}
def avE : Enc AV := ⟨fun v => [v], 1, Nat.one_pos, fun _ => rfl⟩
theorem avE_flat (l : List AV) : l.flatMap avE.f = l := by
 induction l with
 | nil => rfl
 | cons a r ih => rw [List.flatMap_cons, ih]; rfl
theorem Sl.growC {β : Type} {F : Enc β} {E : Enc α} {mark : Nat → α} {col col' : Nat → Option Nat} {s s' : St} {x : AV} {l : List β} (h : Sl F s x l) (hc : ColS col x none) (hG : GrowC E mark col s col' s') : Sl F s' x l ∧ ColS col' x none := by
 rcases h with h | ⟨b, o, n, cap, rfl, h1, c, k, tl, g1, g2, g3⟩
 ·refine ⟨.inl h, fun c hc => ?_⟩
  have := h.1
  cases x <;> simp [slZero, blkOf] at this hc
 ·obtain ⟨q1, q2⟩ := hG.2.1 b _ g1 (hc b (by simp [blkOf]))
  refine ⟨.inr ⟨b, o, n, cap, rfl, h1, c, k, tl, q1, g2, g3⟩, fun d hd => ?_⟩
  have : d = b := by simpa [blkOf] using hd
  rw [this]; exact q2
theorem So.growC {β : Type} {F : Enc β} {E : Enc α} {mark : Nat → α} {col col' : Nat → Option Nat} {s s' : St} {x : AV} {l : List β} (h : So F s x l) (hc : ColS col x none) (hG : GrowC E mark col s col' s') : So F s' x l ∧ ColS col' x none := by
 refine ⟨?_, (h.sl.growC hc hG).2⟩
 rcases h with h | ⟨b, k, n, c, rfl, h1, h2, h3⟩
 ·exact .inl h
 ·exact .inr ⟨b, k, n, c, rfl, h1, (hG.2.1 b _ h2 (hc b (by simp [blkOf]))).1, h3⟩
structure Own2 (E : Enc α) (mark : Nat → α) (ns : Nat → Nat) (N n0 : Nat) (a0 : AV) (L : List AV) (col : Nat → Option Nat) (s : St) (g : AV) (LG : List AV) : Prop where
 fr : Fr s
 nx : n0 ≤ s.nx
 a : Sl avE s a0 L
 ac : ColS col a0 none
 ab : ∀ c, c ∈ blkOf a0 → c < n0
 l : ∀ (j : Nat) (x : AV), L[j]? = some x → Mk E s x (ns j) (mark j) ∧ ColS col x (some j)
 og : So avE s g LG
 gc : ColS col g none
 gb : ∀ c, c ∈ blkOf g → n0 ≤ c
 gl : ∀ (q : Nat) (y : AV), LG[q]? = some y → ∃ n, n ≤ N ∧ Mk E s y n (mark (q / 3)) ∧ ColS col y (some (q / 3))
variable {E : Enc α} {mark : Nat → α} {ns : Nat → Nat} {N n0 : Nat} {a0 g : AV} {L LG : List AV} {col col' : Nat → Option Nat} {s s' s1 : St}
theorem Own2.grow (h : Own2 E mark ns N n0 a0 L col s g LG) (hG : GrowC E mark col s col' s') (hf : Fr s') : Own2 E mark ns N n0 a0 L col' s' g LG := by
 obtain ⟨a1, a2⟩ := h.a.growC h.ac hG
 obtain ⟨g1, g2⟩ := h.og.growC h.gc hG
 exact ⟨hf, Nat.le_trans h.nx hG.2.2.1, a1, a2, h.ab, fun j x hx => hG.1 x _ j (h.l j x hx).1 (h.l j x hx).2, g1, g2, h.gb, fun q y hy => let ⟨n, h1, h2, h3⟩ := h.gl q y hy; ⟨n, h1, hG.1 y n _ h2 h3⟩⟩
theorem Own2.push {t : TypeId} {ti ei : TyI} {et : TypeId} {i m : Nat} {y1 y2 y3 : AV} {k1 k2 k3 : Nat} (h : Own2 E mark ns N n0 a0 L col s g LG) (hti : D.ty.get t = some ti) (hd : ti.d = .slice et) (hei : D.ty.get et = some ei) (hsz : ei.size = 1) (hbt : ei.bytes ≤ 24) {zv : AV} (hzv : ei.zero = some zv) (hzl : zv.cells.length = 1)
  (m1 : Mk E s y1 k1 (mark i)) (m2 : Mk E s y2 k2 (mark i)) (m3 : Mk E s y3 k3 (mark i)) (c1 : ColS col y1 (some i)) (c2 : ColS col y2 (some i)) (c3 : ColS col y3 (some i)) (b1 : k1 ≤ N) (b2 : k2 ≤ N) (b3 : k3 ≤ N)
  (hlen : LG.length = 3 * i) (hi : i < 1000000) (hN : NewO s (cellsO [y1, y2, y3]) m s1) :
  ∃ v s' col', appendX D s1 t t g (.slice m 0 3 (.exact 3)) = some (v, s') ∧ Own2 E mark ns N n0 a0 L col' s' v (LG ++ [y1, y2, y3]) ∧ (LG ++ [y1, y2, y3]).length = 3 * (i + 1) := by
 have hy : Sl avE s1 (.slice m 0 3 (.exact 3)) [y1, y2, y3] := .inr ⟨m, 0, 3, .exact 3, rfl, by rw [avE_flat]; rfl, by rw [avE_flat]; exact hN.own.rd⟩
 have one1 : ∀ {y : AV} {k : Nat}, Mk E s y k (mark i) → ones [y] = true := fun hk => by
  have := hk.len
  rename_i y k
  cases y <;> first | rfl | simp [slLen] at this
 have hb : (LG.length + [y1, y2, y3].length + (LG.length + [y1, y2, y3].length) / 4 + 600) * ei.bytes ≤ pow48 := by
  have : (LG.length + [y1, y2, y3].length + (LG.length + [y1, y2, y3].length) / 4 + 600) * ei.bytes ≤ 10000000 * 24 := Nat.mul_le_mul (by simp only [List.length_cons, List.length_nil]; omega) hbt
  unfold pow48; omega
 obtain ⟨v, s', q1, q2, q3, q4, q5⟩ := (h.og.ext hN.fwd).appendAll hy hti hd hei hsz hzv hzl (fun a ha => by
  simp only [List.mem_cons, List.not_mem_nil, or_false] at ha
  rcases ha with rfl | rfl | rfl
  ·exact one1 m1
  ·exact one1 m2
  ·exact one1 m3) hb (by unfold pow48; simp only [List.length_cons, List.length_nil]; omega) hN.fr
 have hF : Frw (blkOf g) s s' := (hN.fwd.mono (by simp)).trans q3
 have hgt : ∀ c, c ∈ blkOf g → s.h.get c ≠ none := by
  rcases h.og with ⟨rfl, _⟩ | ⟨b, k, n, c, rfl, _, h2, _⟩
  ·simp [blkOf]
  ·intro d hd
   have : d = b := by simpa [blkOf] using hd
   rw [this, h2]; simp
 have hnew : ∀ c, c ∈ blkOf v → s.nx < c := by
  intro c hc
  obtain ⟨rfl, hs1, _⟩ := hN
  rcases q4 c hc with rfl | ⟨e1, e2, _⟩
  ·rw [hs1]; simp [St.new]
  ·exfalso
   rw [e1] at q2
   have hl1 := q2.sl.len
   have hl2 := h.og.sl.len
   rw [hl1] at hl2
   simp at hl2
 have keep : ∀ {y : AV} {k j : Nat}, Mk E s y k (mark j) → ColS col y (some j) → Mk E s' y k (mark j) ∧ ColS (fun c => if c < s.nx then col c else none) y (some j) := fun {y k j} a b => by
  refine ⟨a.beside hF fun c hc hy => ?_, fun c hc => ?_⟩
  ·have := h.gc c hc
   rw [b c hy] at this
   simp at this
  ·have := h.fr.lt (a.there c hc)
   simp only [this, if_true]
   exact b c hc
 have hnx : s.nx ≤ s'.nx := hF.2.1
 refine ⟨v, s', fun c => if c < s.nx then col c else none, q1, ⟨q5.1, Nat.le_trans h.nx hnx, ?_, fun c hc => ?_, h.ab, fun j x hx => keep (h.l j x hx).1 (h.l j x hx).2, q2, fun c hc => ?_, fun c hc => ?_, fun q y hy' => ?_⟩, by simp [hlen]; omega⟩
 ·refine SlR.fwd h.a hF fun c hc => .inr fun b o n cap hx => ?_
  rintro rfl
  have h1 := h.gb b hc
  have h2 := h.ab b (by rw [hx]; simp [blkOf])
  omega
 ·show (if c < s.nx then col c else none) = none
  split
  ·exact h.ac c hc
  ·rfl
 ·have := hnew c hc
  show (if c < s.nx then col c else none) = none
  rw [if_neg (by omega)]
 ·have := hnew c hc
  have := h.nx
  omega
 ·rcases Nat.lt_or_ge q LG.length with hq | hq
  ·rw [List.getElem?_append_left hq] at hy'
   obtain ⟨n, h1, h2, h3⟩ := h.gl q y hy'
   exact ⟨n, h1, keep h2 h3⟩
  ·rw [List.getElem?_append_right hq] at hy'
   have hq3 : q - LG.length < 3 := by
    have := (List.getElem?_eq_some_iff.1 hy').1
    simpa using this
   have hdiv : q / 3 = i := by omega
   rw [hdiv]
   obtain ⟨d, hd'⟩ : ∃ d, d = q - LG.length := ⟨_, rfl⟩
   rw [← hd'] at hy' hq3
   match d, hq3 with
   | 0, _ => simp at hy'; subst hy'; exact ⟨k1, b1, keep m1 c1⟩
   | 1, _ => simp at hy'; subst hy'; exact ⟨k2, b2, keep m2 c2⟩
   | 2, _ => simp at hy'; subst hy'; exact ⟨k3, b3, keep m3 c3⟩
   | d + 3, hq3 => omega
structure Own1 (E : Enc α) (mark : Nat → α) (ns kk : Nat → Nat) (n0 : Nat) (a0 : AV) (L : List AV) (s : St) : Prop where
 fr : Fr s
 nx : n0 ≤ s.nx
 a : Sl avE s a0 L
 ab : ∀ c, c ∈ blkOf a0 → c < n0
 l : ∀ (j : Nat) (x : AV), L[j]? = some x → MkP E s x (ns j) (kk j) (mark j)
 d : ∀ (i j : Nat) (x y : AV), L[i]? = some x → L[j]? = some y → i ≠ j → ∀ c, c ∈ blkOf x → c ∉ blkOf y
 da : ∀ (i : Nat) (x : AV), L[i]? = some x → ∀ c, c ∈ blkOf x → c ∉ blkOf a0
theorem Own1.wr {kk : Nat → Nat} (h : Own1 E mark ns kk n0 a0 L s) {i b : Nat} {x : AV} {k : Nat} (hx : L[i]? = some x) (hb : blkOf x = [b]) (hm : MkP E s' x (ns i) k (mark i)) (hf : Frw [b] s s') (hn : s'.nx = s.nx) (hg : ∀ c, c ≠ b → s'.h.get c = s.h.get c) : Own1 E mark ns (fun j => if j = i then k else kk j) n0 a0 L s' := by
 have hbx : s.h.get b ≠ none := (h.l i x hx).there b (by rw [hb]; simp)
 refine ⟨h.fr.wr hbx hn hg, by rw [hn]; exact h.nx, SlR.fwd h.a hf fun c hc => .inr fun b' o n cap hx' => ?_, h.ab, fun j y hy => ?_, h.d, h.da⟩
 ·have hc' : c = b := by simpa using hc
  subst hc'
  rintro rfl
  exact h.da i x hx b' (by rw [hb]; simp) (by rw [hx']; simp [blkOf])
 ·by_cases e : j = i
  ·rw [if_pos e]
   subst e
   rw [hx] at hy
   simp at hy
   subst hy
   exact hm
  ·rw [if_neg e]
   refine (h.l j y hy).beside hf fun c hc hcy => ?_
   have hc' : c = b := by simpa using hc
   subst hc'
   exact h.d j i y x hy hx e c hcy (by rw [hb]; simp)
theorem Own1.done (h : Own1 E mark ns ns n0 a0 L s) (N : Nat) : ∃ col, Own2 E mark ns N n0 a0 L col s .nilslice [] := by
 classical
 let col : Nat → Option Nat := fun c => if hc : ∃ j x, L[j]? = some x ∧ c ∈ blkOf x then some (Classical.choose hc) else none
 have hcol : ∀ (j : Nat) (x : AV), L[j]? = some x → ∀ c, c ∈ blkOf x → col c = some j := by
  intro j x hx c hc
  have hex : ∃ j x, L[j]? = some x ∧ c ∈ blkOf x := ⟨j, x, hx, hc⟩
  simp only [col, dif_pos hex]
  obtain ⟨x', h1, h2⟩ := Classical.choose_spec hex
  congr 1
  rcases Nat.decEq (Classical.choose hex) j with hne | he
  ·exact absurd hc (h.d _ _ x' x h1 hx hne c h2)
  ·exact he
 refine ⟨col, h.fr, h.nx, h.a, fun c hc => ?_, h.ab, fun j x hx => ⟨(h.l j x hx).mk, hcol j x hx⟩, .nil _ _, fun c hc => (List.not_mem_nil (show c ∈ ([] : List Nat) from hc)).elim, fun c hc => (List.not_mem_nil (show c ∈ ([] : List Nat) from hc)).elim, fun q y hy => by simp at hy⟩
 simp only [col]
 rw [dif_neg]
 rintro ⟨j, x, hx, hc'⟩
 exact h.da j x hx c hc' hc
end
end Go.Eng

namespace Go.Eng
noncomputable section
variable {P : Program} {D : Tab} {α : Type}
def hpO (h : PT AObj) : List Nat → PT AObj
 | [] => .nil
 | b :: r => (match h.get b with | some o => (hpO h r).set b o | none => hpO h r)
theorem hpO_get {h : PT AObj} {b : Nat} : ∀ {l : List Nat}, (hpO h l).get b = if b ∈ l then h.get b else none
 | [] => by simp [hpO]
 | c :: r => by
  have ih := hpO_get (h := h) (b := b) (l := r)
  simp only [hpO]
  cases hc : h.get c with
  | none =>
   simp only [ih, List.mem_cons]
   by_cases e : b = c
   ·subst e; simp [hc]
   ·simp [e]
  | some o =>
   simp only [PT.get_set, ih, List.mem_cons]
   by_cases e : b = c
   ·subst e; simp [hc]
   ·simp [e]
theorem hpO_some {h : PT AObj} {l : List Nat} {b : Nat} {o : AObj} (hb : (hpO h l).get b = some o) : b ∈ l ∧ h.get b = some o := by
 rw [hpO_get] at hb
 split at hb
 ·exact ⟨by assumption, hb⟩
 ·simp at hb
theorem Sl.alone {E : Enc α} {s : St} {x : AV} {l : List α} {fp : List Nat} (h : Sl E s x l) (hx : ∀ c, c ∈ blkOf x → c ∈ fp) : Sl E { s with h := hpO s.h fp } x l := by
 rcases h with h | ⟨b, o, n, cap, rfl, h1, c, N, tl, g1, g2, g3⟩
 ·exact .inl h
 ·exact .inr ⟨b, o, n, cap, rfl, h1, c, N, tl, by
   show (hpO s.h fp).get b = _
   rw [hpO_get, if_pos (hx b (by simp [blkOf]))]; exact g1, g2, g3⟩
def flatV : AV → Bool
 | .bool _ => true
 | .int _ _ => true
 | .str _ => true
 | _ => false
theorem flatV_cv {s : St} {θ κ : Nat → Option Nat} {a : AV} (h : flatV a = true) : CV s θ κ a a := by
 cases a <;> simp [flatV] at h
 ·exact .bool _
 ·exact .int _ _
 ·exact .str _
def lV (b k : Nat) (n : Nat) : AV := if n = 0 then .nilslice else .slice b 0 n (.var k 0)
def lO (E : Enc α) (k : Nat) (l : List α) : AObj := .cells (PT.setAll .nil 0 (l.flatMap E.f)) (l.length * E.z) (some (k, E.z))
def lH (E : Enc α) (h : PT AObj) (b k : Nat) (l : List α) : PT AObj := if l = [] then h else h.set b (lO E k l)
def twoS (E : Enc α) (s : St) (G C : List α) : St := { s with h := lH E (lH E s.h s.nx s.nc G) (s.nx + 1) (s.nc + 1) C, nx := s.nx + 2, nc := s.nc + 2 }
def twoV (s : St) (g c : Nat) : AV := .tuple [lV s.nx s.nc g, lV (s.nx + 1) (s.nc + 1) c]
theorem lH_get {E : Enc α} {h : PT AObj} {b k c : Nat} {l : List α} : (lH E h b k l).get c = if l ≠ [] ∧ c = b then some (lO E k l) else h.get c := by
 unfold lH
 by_cases hl : l = []
 ·simp [hl]
 ·simp only [hl, if_false, PT.get_set, ne_eq, not_false_eq_true, true_and]
theorem twoS_get {E : Enc α} {s : St} {G C : List α} {c : Nat} : (twoS E s G C).h.get c = if C ≠ [] ∧ c = s.nx + 1 then some (lO E (s.nc + 1) C) else if G ≠ [] ∧ c = s.nx then some (lO E s.nc G) else s.h.get c := by
 show (lH E (lH E s.h s.nx s.nc G) (s.nx + 1) (s.nc + 1) C).get c = _
 rw [lH_get, lH_get]
theorem twoS_old {E : Enc α} {s : St} {G C : List α} {c : Nat} (hc : c < s.nx) : (twoS E s G C).h.get c = s.h.get c := by
 rw [twoS_get, if_neg (by omega), if_neg (by omega)]
theorem twoS_fr {E : Enc α} {s : St} {G C : List α} (hf : Fr s) : Fr (twoS E s G C) := fun c hc => by
 have hc : s.nx + 2 ≤ c := hc
 rw [twoS_get, if_neg (by omega), if_neg (by omega)]
 exact hf c (by omega)
theorem twoS_gro {E : Enc α} {s : St} {G C : List α} (hf : Fr s) : Gro s (twoS E s G C) := ⟨twoS_fr hf, by show s.nx ≤ s.nx + 2; omega, fun c hc hn => by rw [twoS_old hc]; exact hn⟩
theorem twoS_frw {E : Enc α} {s : St} {G C : List α} (hf : Fr s) : Frw [] s (twoS E s G C) := ⟨fun c o _ ho => by
 have : c < s.nx := hf.lt (by rw [ho]; simp)
 rw [twoS_old this]; exact ho, by show s.nx ≤ s.nx + 2; omega, rfl⟩
theorem lO_so {E : Enc α} {s : St} {b k : Nat} {l : List α} (h : l ≠ [] → s.h.get b = some (lO E k l)) : SoN E s (lV b k l.length) l := by
 unfold lV
 by_cases e : l.length = 0
 ·rw [if_pos e]
  have := List.length_eq_zero_iff.1 e
  subst this
  exact ⟨.nil _ _, fun _ => rfl⟩
 ·rw [if_neg e]
  have hl : l ≠ [] := fun h => e (by rw [h]; rfl)
  refine ⟨.inr ⟨b, k, l.length, _, rfl, E.flat_len l, h hl, ?_⟩, fun h => absurd h hl⟩
  refine getAll_of (E.flat_len l) fun i hi => ?_
  have := E.flat_len l
  rw [Nat.zero_add, PT.get_setAll, if_pos (by omega)]
  simp
theorem twoS_so {E : Enc α} {s : St} {G C : List α} : SoN E (twoS E s G C) (lV s.nx s.nc G.length) G ∧ SoN E (twoS E s G C) (lV (s.nx + 1) (s.nc + 1) C.length) C := by
 refine ⟨lO_so fun h => ?_, lO_so fun h => ?_⟩
 ·rw [twoS_get, if_neg (by omega), if_pos ⟨h, rfl⟩]
 ·rw [twoS_get, if_pos ⟨h, rfl⟩]
theorem lV_blk {b k n c : Nat} (h : c ∈ blkOf (lV b k n)) : c = b := by
 unfold lV at h
 split at h
 ·cases h
 ·simpa [blkOf] using h
theorem SoN.see {E : Enc α} {s : St} {x : AV} {l : List α} (h : SoN E s x l) : (l = [] ∧ x = .nilslice) ∨ (l ≠ [] ∧ ∃ b k c, x = .slice b 0 l.length (.var k 0) ∧ s.h.get b = some (.cells c (l.length * E.z) (some (k, E.z))) ∧ ∀ i, i < l.length * E.z → c.get i = (l.flatMap E.f)[i]?) := by
 obtain ⟨h, hn⟩ := h
 by_cases e : l = []
 ·exact .inl ⟨e, hn e⟩
 ·refine .inr ⟨e, ?_⟩
  have hlen := h.sl.len
  rcases h with ⟨rfl, _⟩ | ⟨b, k, n, c, rfl, h1, h2, h3⟩
  ·simp only [slLen, Option.some.injEq] at hlen
   exact absurd (List.length_eq_zero_iff.1 hlen.symm) e
  ·have hn : n = l.length := by simpa [slLen] using hlen
   subst hn
   obtain ⟨_, hg⟩ := PT.getAll_spec _ c 0 _ h3
   exact ⟨b, k, c, rfl, h2, fun i hi => by have := hg i hi; rwa [Nat.zero_add] at this⟩
theorem iso_two {E : Enc α} (hE : ∀ a x, x ∈ E.f a → flatV x = true) {s s1 : St} {hR : PT AObj} {g c : AV} {G C : List α} (hf : Fr s) (hg : SoN E s1 g G) (hc : SoN E s1 c C) (hF : Frw [] { s with h := hR } s1) (hgone : ∀ d, d ∈ blkOf g ∨ d ∈ blkOf c → hR.get d = none) (hap : ∀ d, d ∈ blkOf g → d ∉ blkOf c) :
  ∃ θ κ, Iso s hR (.tuple [g, c]) s1 (twoV s G.length C.length) (twoS E s G C) θ κ := by
 have hcell : ∀ {l : List α} {i : Nat} {a : AV}, (PT.setAll .nil 0 (l.flatMap E.f) : PT AV).get i = some a → i < l.length * E.z → (l.flatMap E.f)[i]? = some a ∧ flatV a = true := by
  intro l i a h hi
  have := E.flat_len l
  rw [PT.get_setAll, if_pos (by omega)] at h
  have h : (l.flatMap E.f)[i]? = some a := by simpa using h
  refine ⟨h, ?_⟩
  obtain ⟨b, _, hb⟩ := List.mem_flatMap.1 (List.mem_of_getElem? h)
  exact hE b a hb
 rcases hg.see with ⟨rfl, rfl⟩ | ⟨gne, b1, k1, c1, rfl, g1, g2⟩ <;> rcases hc.see with ⟨rfl, rfl⟩ | ⟨cne, b2, k2, c2, rfl, e1, e2⟩
 ·refine ⟨fun _ => none, fun _ => none, ⟨fun b o h => hF.1 b o (by simp) h, fun b hb => twoS_old hb, fun b o0 hb h => ?_, fun b b' d _ _ h => by simp at h, fun _ _ => rfl, fun _ _ => rfl, .pair .nilslice .nilslice, by show s.nx ≤ s.nx + 2; omega, by show s.nc ≤ s.nc + 2; omega, rfl, hF.2.2⟩⟩
  rw [twoS_get, if_neg (by simp), if_neg (by simp), hf b hb] at h
  simp at h
 ·have hl : C.length ≠ 0 := fun h => cne (List.length_eq_zero_iff.1 h)
  refine ⟨fun b => if b = s.nx + 1 then some b2 else none, fun k => if k = s.nc + 1 then some k2 else none, ⟨fun b o h => hF.1 b o (by simp) h, fun b hb => twoS_old hb, fun b o0 hb h => ?_, fun b b' d _ _ h h' => ?_, fun b hb => ?_, fun k hk => ?_, ?_, by show s.nx ≤ s.nx + 2; omega, by show s.nc ≤ s.nc + 2; omega, rfl, hF.2.2⟩⟩
  ·rw [twoS_get] at h
   split at h
   ·rename_i hh
    obtain ⟨_, rfl⟩ := hh
    simp only [Option.some.injEq] at h
    subst h
    refine ⟨b2, _, by simp, e1, hgone b2 (.inr (by simp [blkOf])), .mk E.pos (by omega) (by simp) fun i a0 hi ha => ?_⟩
    obtain ⟨q1, q2⟩ := hcell ha hi
    exact ⟨a0, by rw [e2 i hi]; exact q1, flatV_cv q2⟩
   ·rw [if_neg (by simp), hf b hb] at h
    simp at h
  ·split at h <;> split at h' <;> simp_all
  ·have hb : s.nx + 2 ≤ b := hb
   exact if_neg (by omega)
  ·have hk : s.nc + 2 ≤ k := hk
   exact if_neg (by omega)
  ·refine .pair .nilslice ?_
   unfold lV
   rw [if_neg hl]
   exact .slice 0 _ (by omega) (by simp) (by omega) (by simp)
 ·have hl : G.length ≠ 0 := fun h => gne (List.length_eq_zero_iff.1 h)
  refine ⟨fun b => if b = s.nx then some b1 else none, fun k => if k = s.nc then some k1 else none, ⟨fun b o h => hF.1 b o (by simp) h, fun b hb => twoS_old hb, fun b o0 hb h => ?_, fun b b' d _ _ h h' => ?_, fun b hb => ?_, fun k hk => ?_, ?_, by show s.nx ≤ s.nx + 2; omega, by show s.nc ≤ s.nc + 2; omega, rfl, hF.2.2⟩⟩
  ·rw [twoS_get, if_neg (by simp)] at h
   split at h
   ·rename_i hh
    obtain ⟨_, rfl⟩ := hh
    simp only [Option.some.injEq] at h
    subst h
    refine ⟨b1, _, by simp, g1, hgone b1 (.inl (by simp [blkOf])), .mk E.pos (by omega) (by simp) fun i a0 hi ha => ?_⟩
    obtain ⟨q1, q2⟩ := hcell ha hi
    exact ⟨a0, by rw [g2 i hi]; exact q1, flatV_cv q2⟩
   ·rw [hf b hb] at h
    simp at h
  ·split at h <;> split at h' <;> simp_all
  ·have hb : s.nx + 2 ≤ b := hb
   exact if_neg (by omega)
  ·have hk : s.nc + 2 ≤ k := hk
   exact if_neg (by omega)
  ·refine .pair ?_ .nilslice
   unfold lV
   rw [if_neg hl]
   exact .slice 0 _ (by omega) (by simp) (by omega) (by simp)
 ·have hl : G.length ≠ 0 := fun h => gne (List.length_eq_zero_iff.1 h)
  have hl2 : C.length ≠ 0 := fun h => cne (List.length_eq_zero_iff.1 h)
  have hne : b1 ≠ b2 := fun e => hap b1 (by simp [blkOf]) (by simp [blkOf, e])
  refine ⟨fun b => if b = s.nx then some b1 else if b = s.nx + 1 then some b2 else none, fun k => if k = s.nc then some k1 else if k = s.nc + 1 then some k2 else none, ⟨fun b o h => hF.1 b o (by simp) h, fun b hb => twoS_old hb, fun b o0 hb h => ?_, fun b b' d _ _ h h' => ?_, fun b hb => ?_, fun k hk => ?_, ?_, by show s.nx ≤ s.nx + 2; omega, by show s.nc ≤ s.nc + 2; omega, rfl, hF.2.2⟩⟩
  ·rw [twoS_get] at h
   split at h
   ·rename_i hh
    obtain ⟨_, rfl⟩ := hh
    simp only [Option.some.injEq] at h
    subst h
    refine ⟨b2, _, by simp, e1, hgone b2 (.inr (by simp [blkOf])), .mk E.pos (by omega) (by simp) fun i a0 hi ha => ?_⟩
    obtain ⟨q1, q2⟩ := hcell ha hi
    exact ⟨a0, by rw [e2 i hi]; exact q1, flatV_cv q2⟩
   ·split at h
    ·rename_i hh
     obtain ⟨_, rfl⟩ := hh
     simp only [Option.some.injEq] at h
     subst h
     refine ⟨b1, _, by simp, g1, hgone b1 (.inl (by simp [blkOf])), .mk E.pos (by omega) (by simp) fun i a0 hi ha => ?_⟩
     obtain ⟨q1, q2⟩ := hcell ha hi
     exact ⟨a0, by rw [g2 i hi]; exact q1, flatV_cv q2⟩
    ·rw [hf b hb] at h
     simp at h
  ·split at h
   ·split at h'
    ·omega
    ·split at h'
     ·simp only [Option.some.injEq] at h h'
      omega
     ·simp at h'
   ·split at h
    ·split at h'
     ·simp only [Option.some.injEq] at h h'
      omega
     ·split at h'
      ·omega
      ·simp at h'
    ·simp at h
  ·have hb : s.nx + 2 ≤ b := hb
   exact (if_neg (by omega)).trans (if_neg (by omega))
  ·have hk : s.nc + 2 ≤ k := hk
   exact (if_neg (by omega)).trans (if_neg (by omega))
  ·unfold twoV lV
   rw [if_neg hl, if_neg hl2]
   exact .pair (.slice 0 _ (by omega) (by simp) (by omega) (by simp)) (.slice 0 _ (by omega) (by simp) (by omega) (by simp))
end
end Go.Eng

namespace Go.Eng
noncomputable section
variable {P : Program} {D : Tab} {α : Type}
def CutS (x : AV) : Prop := ∃ b o n cap, x = .slice b o n cap ∧ 0 < n ∧ ∀ c, cap = .exact c → n ≤ c
theorem ArgS.cut {x : AV} (h : ArgS x) {n : Nat} (hl : slLen x = some n) (hn : 0 < n) : CutS x := by
 rcases h with rfl | rfl | ⟨b, o, m, c, rfl, h0, hc⟩
 ·simp [slLen] at hl; omega
 ·simp [slLen] at hl; omega
 ·exact ⟨b, o, m, _, rfl, h0, fun c' e => by cases e; exact hc⟩
theorem So.cut {E : Enc α} {s : St} {x : AV} {l : List α} (h : So E s x l) (hl : l ≠ []) : CutS x := by
 have hlen := h.sl.len
 rcases h with ⟨rfl, _⟩ | ⟨b, k, n, c, rfl, h1, h2, h3⟩
 ·simp only [slLen, Option.some.injEq] at hlen
  exact absurd (List.length_eq_zero_iff.1 hlen.symm) hl
 ·have hn : n = l.length := by simpa [slLen] using hlen
  refine ⟨b, 0, n, _, rfl, ?_, fun c e => by cases e⟩
  rw [hn]; exact List.length_pos_iff.2 hl
theorem Sl.cut {E : Enc α} {s : St} {x : AV} {l : List α} (h : Sl E s x l) (hc : CutS x) {k : Nat} (h0 : 0 < k) (hk : k < l.length) :
  (∃ y, sliceV E.z x none (some (.int .i64 (k : Int))) none = some y ∧ Sl E s y (l.take k) ∧ CutS y) ∧ ∃ y, sliceV E.z x (some (.int .i64 (k : Int))) none none = some y ∧ Sl E s y (l.drop k) ∧ CutS y := by
 have hlen := h.len
 obtain ⟨b, o, n, cap, rfl, hn0, hcap⟩ := hc
 have hn : n = l.length := by simpa [slLen] using hlen
 rcases h with ⟨h1, _⟩ | ⟨b', o', n', c', h1, h2, d, N, tl, g1, g2, g3⟩
 ·simp [slZero] at h1
 simp only [AV.slice.injEq] at h1
 obtain ⟨rfl, rfl, rfl, rfl⟩ := h1
 have hz : (l.flatMap E.f).length = l.length * E.z := E.flat_len l
 have hm : k * E.z + (l.length - k) * E.z = l.length * E.z := by rw [← Nat.add_mul]; congr 1; omega
 have htl : ((l.take k).flatMap E.f).length = k * E.z := by rw [E.flat_len, List.length_take, Nat.min_eq_left (by omega)]
 have hdl : ((l.drop k).flatMap E.f).length = (l.length - k) * E.z := by rw [E.flat_len, List.length_drop]
 have rt : ∀ cap', Sl E s (.slice b o k cap') (l.take k) := fun cap' => .inr ⟨b, o, k, _, rfl, htl, d, N, tl, g1, by rw [htl]; omega, by
  rw [htl, E.flat_take (by omega)]
  have := getAll_part g3 0 (k * E.z) (by rw [hz]; omega)
  simpa using this⟩
 have rd : ∀ cap', Sl E s (.slice b (o + k * E.z) (n - k) cap') (l.drop k) := fun cap' => .inr ⟨b, _, n - k, _, rfl, by rw [hdl, hn], d, N, tl, g1, by rw [hdl]; omega, by
  rw [hdl, E.flat_drop (by omega)]
  have := getAll_part g3 (k * E.z) ((l.length - k) * E.z) (by rw [hz]; omega)
  rw [List.take_of_length_le (by rw [List.length_drop, hz]; omega)] at this
  exact this⟩
 have e1 : sliceV E.z (.slice b o n cap) none (some (.int .i64 (k : Int))) none = (match cap with | .exact c => sliceEx E.z b o c 0 k c | .var q t => sliceVar E.z b o n q t 0 k) := by
  cases cap <;> simp [sliceV, optInt, sliceSl]
 have e2 : sliceV E.z (.slice b o n cap) (some (.int .i64 (k : Int))) none none = (match cap with | .exact c => sliceEx E.z b o c k n c | .var q t => sliceVar E.z b o n q t k n) := by
  cases cap <;> simp [sliceV, optInt, sliceSl]
 rw [e1, e2]
 cases cap with
 | exact c =>
  have hnc := hcap c rfl
  have b1 : Nat.ble 0 k = true := by rw [Nat.ble_eq]; omega
  have b2 : Nat.ble k c = true := by rw [Nat.ble_eq]; omega
  have b3 : Nat.ble c c = true := by rw [Nat.ble_eq]; omega
  have b4 : Nat.ble k n = true := by rw [Nat.ble_eq]; omega
  have b5 : Nat.ble n c = true := by rw [Nat.ble_eq]; omega
  have b6 : Nat.beq c 0 = false := by
   cases c with
   | zero => omega
   | succ c => rfl
  have b7 : Nat.beq c k = false := by
   cases hb : Nat.beq c k with
   | false => rfl
   | true => have := Nat.eq_of_beq_eq_true hb; omega
  refine ⟨⟨.slice b o k (.exact c), ?_, rt _, b, o, k, _, rfl, h0, fun c' e => by cases e; omega⟩, ⟨.slice b (o + k * E.z) (n - k) (.exact (c - k)), ?_, rd _, b, _, n - k, _, rfl, by omega, fun c' e => by cases e; omega⟩⟩
  ·simp only [sliceEx, b1, b2, b3, b6, Bool.and_self, if_true]
   simp
  ·simp only [sliceEx, b4, b5, b3, b7, Bool.and_self, if_true]
 | var q t =>
  have b1 : Nat.ble 0 k = true := by rw [Nat.ble_eq]; omega
  have b2 : Nat.ble k n = true := by rw [Nat.ble_eq]; omega
  have b3 : Nat.ble n n = true := by rw [Nat.ble_eq]; omega
  have b4 : Nat.blt 0 n = true := by rw [Nat.blt_eq]; omega
  have b5 : Nat.blt k n = true := by rw [Nat.blt_eq]; omega
  refine ⟨⟨.slice b o k (.var q t), ?_, rt _, b, o, k, _, rfl, h0, fun c' e => by cases e⟩, ⟨.slice b (o + k * E.z) (n - k) (.var q (t + k)), ?_, rd _, b, _, n - k, _, rfl, by omega, fun c' e => by cases e⟩⟩
  ·simp only [sliceVar, b1, b2, b4, Bool.and_self, if_true]
   simp
  ·simp only [sliceVar, b2, b3, b5, Bool.and_self, if_true]
end
end Go.Eng

