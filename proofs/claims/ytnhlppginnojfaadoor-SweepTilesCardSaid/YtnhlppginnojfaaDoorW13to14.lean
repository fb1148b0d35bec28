/-
  What a row hands in: the heap as blocks that are read only.
  Data as they are handed in: pairs of numbers.
-/
import Derived.Test.YtnhlppginnojfaaDoorW8to12
import Derived.Deep.Slices
import Derived.OpenShut
set_option linter.unusedVariables false
set_option linter.unusedSimpArgs false
namespace Go.Eng
open Go
noncomputable section
variable {P : Program} {D : Tab} {α : Type}
def optT : List (Option α) → Nat → PT α
 | [], _ => .nil
 | some x :: r, i => (optT r (i + 1)).set i x
 | none :: r, i => optT r (i + 1)
theorem optT_get : ∀ (l : List (Option α)) (i j : Nat), (optT l i).get j = if i ≤ j then (l[j - i]?).join else none
 | [], i, j => by simp [optT]
 | some x :: r, i, j => by
  simp only [optT, PT.get_set, optT_get r (i + 1) j]
  by_cases e : j = i
  ·subst e; simp
  ·by_cases h : i ≤ j
   ·rw [if_neg e, if_pos (by omega), if_pos h]
    rw [show j - i = (j - (i + 1)) + 1 by omega]; simp
   ·rw [if_neg e, if_neg (by omega), if_neg h]
 | none :: r, i, j => by
  simp only [optT, optT_get r (i + 1) j]
  by_cases e : j = i
  ·subst e; rw [if_neg (by omega)]; simp
  ·by_cases h : i ≤ j
   ·rw [if_pos (by omega), if_pos h]
    rw [show j - i = (j - (i + 1)) + 1 by omega]; simp
   ·rw [if_neg (by omega), if_neg h]
def absV (m : Nat) : Value → Option AV
 | .bool b => some (.bool b)
 | .int k n => some (.int k n)
 | .string s => some (.str s)
 | .pointer none => some .nilptr
 | .pointer (some a) => if a.spot = none ∧ a.block < m then some (.ptr (GB + a.block) a.off) else none
 | .slice none 0 0 => some .nilslice
 | .slice (some a) 0 _ => some (.slice0 false)
 | .slice (some a) (n + 1) c => if a.spot = none ∧ a.block < m ∧ n + 1 ≤ c then some (.slice (GB + a.block) a.off (n + 1) (.exact c)) else none
 | .map none => some .nilmap
 | .nilFunc => some .nilFunc
 | .nilIface => some .nilIface
 | _ => none
def phiW (W : World) : Phi := { blk := fun b => if b < GG then some (b, 0) else if GB ≤ b ∧ b < GB + W.heap.size then some (b - GB, 0) else none, cap := fun _ => none, sym := fun _ => none, env := env0 }
def romO (m : Nat) : Obj → Option AObj
 | .cells arr _ _ => some (.cells (optT (arr.toList.map (absV m)) 0) arr.size (some (0, 0)))
 | _ => none
def stW (W : World) : St := { h := optT (W.heap.toList.map (romO W.heap.size)) GB, nx := GB + W.heap.size, nc := 0, fs := [] }
theorem phiW_blk {W : World} {r : Nat} (h : r < W.heap.size) : (phiW W).blk (GB + r) = some (r, 0) := by
 have : ¬ GB + r < GG := by unfold GB GG; omega
 simp [phiW, this, h]
theorem stW_get {W : World} {b : Nat} {o : AObj} (h : (stW W).h.get b = some o) : GB ≤ b ∧ ∃ arr e fz, W.heap[b - GB]? = some (.cells arr e fz) ∧ o = .cells (optT (arr.toList.map (absV W.heap.size)) 0) arr.size (some (0, 0)) := by
 simp only [stW, optT_get] at h
 split at h
 ·rename_i hb
  refine ⟨hb, ?_⟩
  simp only [List.getElem?_map, Option.join_eq_some_iff, Option.map_eq_some_iff] at h
  obtain ⟨ob, h1, h2⟩ := h
  have h1 : W.heap[b - GB]? = some ob := by simpa using h1
  unfold romO at h2
  split at h2
  ·simp at h2
   exact ⟨_, _, _, h1, h2.symm⟩
  ·simp at h2
 ·simp at h
theorem stW_at {W : World} {r : Nat} {arr : Array Value} {e : TypeId} {fz : Nat × Nat} (h : W.heap[r]? = some (.cells arr e fz)) : (stW W).h.get (GB + r) = some (.cells (optT (arr.toList.map (absV W.heap.size)) 0) arr.size (some (0, 0))) := by
 have hr := (Array.getElem?_eq_some_iff.1 h).1
 simp only [stW, optT_get]
 rw [if_pos (by omega), Nat.add_sub_cancel_left]
 have : W.heap.toList[r]? = some (.cells arr e fz) := by simpa using h
 rw [List.getElem?_map, this]; rfl
theorem rdW {W : World} {r o : Nat} {vs : List Value} {as : List AV} (hl : as.length = vs.length) (h : ∀ i v, vs[i]? = some v → W.cell? ⟨r, o + i, none⟩ = some v ∧ ∃ a, as[i]? = some a ∧ absV W.heap.size v = some a) (h0 : 0 < vs.length) : Rd (stW W) (GB + r) o as := by
 have hcell : ∀ {i : Nat} {v : Value}, W.cell? ⟨r, i, none⟩ = some v → ∃ arr e fz, W.heap[r]? = some (.cells arr e fz) ∧ arr[i]? = some v := by
  intro i v h
  unfold World.cell? at h
  split at h
  ·rename_i c e fz hc
   simp at h
   exact ⟨c, e, fz, hc, h⟩
  ·simp at h
 obtain ⟨v0, hv0⟩ : ∃ v, vs[0]? = some v := ⟨_, List.getElem?_eq_getElem h0⟩
 obtain ⟨arr, e, fz, hh, _⟩ := hcell (h 0 v0 hv0).1
 have hat : ∀ i v, vs[i]? = some v → arr[o + i]? = some v := by
  intro i v hv
  obtain ⟨arr', e', fz', hh', h3⟩ := hcell (h i v hv).1
  rw [hh] at hh'
  cases hh'
  exact h3
 refine ⟨_, _, _, stW_at hh, ?_, getAll_of rfl fun i hi => ?_⟩
 ·rw [hl]
  have hlast : vs.length - 1 < vs.length := by omega
  have := (Array.getElem?_eq_some_iff.1 (hat (vs.length - 1) _ (List.getElem?_eq_getElem hlast))).1
  omega
 ·have hi' : i < vs.length := by omega
  have hv := List.getElem?_eq_getElem hi'
  obtain ⟨a, ha, hab⟩ := (h i _ hv).2
  rw [optT_get]
  have h4 : arr.toList[o + i]? = some vs[i] := by simpa using hat i _ hv
  simp only [Nat.zero_le, if_true, Nat.sub_zero, List.getElem?_map, h4, Option.map_some, Option.join_some]
  rw [hab, ha]
theorem Enc.flat_get (E : Enc α) (l : List α) (k : Nat) (h : k < l.length) (j : Nat) (hj : j < E.z) : (l.flatMap E.f)[k * E.z + j]? = (E.f l[k])[j]? := by
 have := E.flat_at l k h
 rw [← this, List.getElem?_take_of_lt hj, List.getElem?_drop]
theorem rdW' {W : World} {r o : Nat} {as : List AV} (h : ∀ j, j < as.length → ∃ v a, W.cell? ⟨r, o + j, none⟩ = some v ∧ as[j]? = some a ∧ absV W.heap.size v = some a) (h0 : 0 < as.length) : Rd (stW W) (GB + r) o as := by
 have : ∃ vs : List Value, vs.length = as.length ∧ ∀ j, j < as.length → ∃ v a, vs[j]? = some v ∧ W.cell? ⟨r, o + j, none⟩ = some v ∧ as[j]? = some a ∧ absV W.heap.size v = some a := by
  refine ⟨(List.range as.length).map fun j => (W.cell? ⟨r, o + j, none⟩).getD (.bool false), by simp, fun j hj => ?_⟩
  obtain ⟨v, a, h1, h2, h3⟩ := h j hj
  refine ⟨v, a, ?_, h1, h2, h3⟩
  rw [List.getElem?_map, List.getElem?_range hj]
  simp [h1]
 obtain ⟨vs, hl, hv⟩ := this
 refine rdW hl.symm (fun i v hi => ?_) (by omega)
 have hlt := (List.getElem?_eq_some_iff.1 hi).1
 obtain ⟨v', a, h1, h2, h3, h4⟩ := hv i (by omega)
 rw [hi] at h1
 cases h1
 exact ⟨h2, a, h3, h4⟩
theorem block_lt {W : World} {a : Addr} {v : Value} (h : W.cell? a = some v) : a.block < W.heap.size := by
 unfold World.cell? at h
 split at h
 ·rename_i hc; exact (Array.getElem?_eq_some_iff.1 hc).1
 ·simp at h
theorem spot_none {W : World} {a : Addr} {v : Value} (h : W.cell? a = some v) : a.spot = none := by
 unfold World.cell? at h
 split at h
 ·split at h
  ·simp at h
  ·rename_i hs; simpa using hs
 ·simp at h
theorem slW {W : World} (E : Enc α) (l : List α) {a : Addr} {n c : Nat} (hn : l.length = n) (hc : n ≤ c) (h : ∀ k (hk : k < l.length) j, j < E.z → ∃ v x, W.cell? ((a.add (k * E.z)).add j) = some v ∧ (E.f l[k])[j]? = some x ∧ absV W.heap.size v = some x) :
  ∃ x, absV W.heap.size (.slice (some a) n c) = some x ∧ Sl E (stW W) x l := by
 subst hn
 cases hl : l.length with
 | zero =>
  have : l = [] := List.length_eq_zero_iff.1 hl
  subst this
  exact ⟨.slice0 false, rfl, .inl ⟨rfl, rfl⟩⟩
 | succ n =>
  obtain ⟨v0, x0, h1, _, _⟩ := h 0 (by omega) 0 E.pos
  have h1 : W.cell? a = some v0 := by simpa [Addr.add] using h1
  have hs := spot_none h1
  have hb := block_lt h1
  obtain ⟨r, o, sp⟩ := a
  simp only at hs hb
  subst hs
  refine ⟨.slice (GB + r) o (n + 1) (.exact c), ?_, .inr ⟨GB + r, o, n + 1, .exact c, rfl, by rw [E.flat_len, hl], rdW' (fun j hj => ?_) ?_⟩⟩
  ·simp only [absV]
   rw [if_pos ⟨trivial, hb, by omega⟩]
  ·rw [E.flat_len] at hj
   have hz := E.pos
   have hk : j / E.z < l.length := Nat.div_lt_of_lt_mul (by rwa [Nat.mul_comm] at hj)
   obtain ⟨v, x, g1, g2, g3⟩ := h (j / E.z) hk (j % E.z) (Nat.mod_lt _ hz)
   have hj' : j / E.z * E.z + j % E.z = j := by rw [Nat.mul_comm]; exact Nat.div_add_mod j E.z
   refine ⟨v, x, ?_, ?_, g3⟩
   ·rw [WideShapes.add_plain, WideShapes.add_plain, Nat.add_assoc, hj'] at g1
    exact g1
   ·rw [← g2, ← E.flat_get l (j / E.z) hk (j % E.z) (Nat.mod_lt _ hz), hj']
  ·rw [E.flat_len, hl]; exact Nat.mul_pos (by omega) E.pos
theorem cells2 {W : World} {base : Nat} {a : Addr} {cs : List Value} {n : Nat} (h : W.cells? base a n = some cs) : cs.length = n ∧ ∀ j, j < n → W.cell? (a.add j) = cs[j]? := by
 unfold World.cells? at h
 split at h
 ·exact ⟨by simpa using mapM_some_length h, fun j hj => mapM_some_get h j j (by simp [hj])⟩
 ·simp at h
end
end Go.Eng

namespace Go.Eng
open Go
noncomputable section
variable {H : Type} {enc : TypeId × Value → H} {P : Program} {w : World} {base : Nat} {spare : Nat → Bool} {held : Bool} {fuel : Nat}
theorem pair_read {t : TypeId} {fs : Array Field} {f0 f1 : Field} {k0 k1 : IntKind} {cs : List Value} {x : DataW H × List MemPlace} (h : DataW.trod enc P w base spare held fuel t cs = some x)
  (hu : P.underlying t = some (.struct fs)) (h0 : fs[0]? = some f0) (h1 : fs[1]? = some f1) (o0 : f0.offset = 0) (o1 : f1.offset = 1) (u0 : P.underlying f0.type = some (.int k0)) (u1 : P.underlying f1.type = some (.int k1))
  (c0 : P.cellsOf f0.type = 1) (c1 : P.cellsOf f1.type = 1) (c : P.cellsOf t = 2) : ∃ a b, cs = [.int k0 a, .int k1 b] ∧ (Lit.int k0 a).wf = true ∧ (Lit.int k1 b).wf = true := by
 obtain ⟨xs, n, _, _, hl, hx, hf⟩ := DataW.trod_struct hu h
 rw [c] at hl
 obtain ⟨v0, v1, rfl⟩ : ∃ v0 v1, cs = [v0, v1] := by
  match cs, hl with
  | [v0, v1], _ => exact ⟨v0, v1, rfl⟩
 have e0 := hf 0 f0 h0
 have e1 := hf 1 f1 h1
 rw [o0, c0] at e0
 rw [o1, c1] at e1
 have l0 : 0 < xs.length := by rw [hx]; exact (Array.getElem?_eq_some_iff.1 h0).1
 have l1 : 1 < xs.length := by rw [hx]; exact (Array.getElem?_eq_some_iff.1 h1).1
 rw [List.getElem?_eq_getElem l0] at e0
 rw [List.getElem?_eq_getElem l1] at e1
 obtain ⟨a, ha, _, wa⟩ := DataW.trod_int u0 e0
 obtain ⟨b, hb, _, wb⟩ := DataW.trod_int u1 e1
 simp at ha hb
 exact ⟨a, b, by rw [ha, hb], wa, wb⟩
def slcLen : DataW H → Nat
 | .slice l _ => l.length
 | _ => 0
theorem slice_read2 {α : Type} [Inhabited α] (E : Enc α) (R : α → Prop) {t e : TypeId} {v : Value} {x : DataW H × List MemPlace} (h : DataW.trod enc P w base (fun _ => true) held fuel t [v] = some x)
  (hu : P.underlying t = some (.slice e)) (hz : P.cellsOf e = E.z)
  (he : ∀ (n : Nat) (cs : List Value) (y : DataW H × List MemPlace), DataW.trod enc P w base (fun _ => true) held n e cs = some y → cs.length = E.z → ∃ a, R a ∧ ∀ j, j < E.z → ∃ v x, cs[j]? = some v ∧ (E.f a)[j]? = some x ∧ absV w.heap.size v = some x) :
  ∃ (y : AV) (l : List α), absV w.heap.size v = some y ∧ Sl E (stW w) y l ∧ (∀ a, a ∈ l → R a) ∧ l.length ≤ maxLen ∧ l.length ≤ slcLen x.1 := by
 rcases Go.Deep.open_slice hu h with ⟨hv, _⟩ | ⟨a, len, cap, m, n, D, Pl, hv, _, hlc, hcm, hm, hxx, hel⟩
 ·simp at hv; subst hv
  exact ⟨.nilslice, [], rfl, .nil _ _, by simp, by simp, by simp⟩
 ·simp at hv; subst hv
  simp at hm
  subst hm
  have : ∃ l : List α, l.length = len ∧ (∀ a, a ∈ l → R a) ∧ ∀ k (hk : k < l.length) j, j < E.z → ∃ v x, w.cell? ((a.add (k * E.z)).add j) = some v ∧ (E.f l[k])[j]? = some x ∧ absV w.heap.size v = some x := by
   have step : ∀ i, i < len → ∃ b, R b ∧ ∀ j, j < E.z → ∃ v x, w.cell? ((a.add (i * E.z)).add j) = some v ∧ (E.f b)[j]? = some x ∧ absV w.heap.size v = some x := by
    intro i hi
    obtain ⟨cs, h1, h2⟩ := hel i (by omega)
    obtain ⟨h3, h4⟩ := cells2 h1
    rw [hz] at h3 h4
    obtain ⟨b, hb, h5⟩ := he _ cs _ h2 h3
    refine ⟨b, hb, fun j hj => ?_⟩
    obtain ⟨v, x, g1, g2, g3⟩ := h5 j hj
    exact ⟨v, x, by rw [h4 j hj]; exact g1, g2, g3⟩
   obtain ⟨f, hf⟩ := Go.Deep.choose_lt (p := fun i b => R b ∧ ∀ j, j < E.z → ∃ v x, w.cell? ((a.add (i * E.z)).add j) = some v ∧ (E.f b)[j]? = some x ∧ absV w.heap.size v = some x) step
   refine ⟨(List.range len).map f, by simp, fun b hb => ?_, fun k hk j hj => ?_⟩
   ·obtain ⟨i, hi, rfl⟩ := List.mem_map.1 hb
    exact (hf i (by simpa using hi)).1
   ·have hk' : k < len := by simpa using hk
    have := (hf k hk').2 j hj
    simpa using this
  obtain ⟨l, h1, h2, h3⟩ := this
  obtain ⟨y, h4, h5⟩ := slW E l h1 hlc h3
  exact ⟨y, l, h4, h5, h2, by omega, by rw [hxx]; simp [slcLen, h1]⟩
end
end Go.Eng

