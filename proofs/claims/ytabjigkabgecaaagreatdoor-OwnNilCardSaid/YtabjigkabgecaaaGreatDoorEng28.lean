/-
  The abstract interpreter, its soundness: a region that draws, in whatever order.
-/
import Derived.Test.YtabjigkabgecaaaGreatDoorEng27
namespace Go.Eng
variable {P : Program} {D : Tab} {ops : Array Oper} {rec : Rec} {mg : Merge} {base n : Nat} {gs : Nat → Rg}

theorem Rel.more {φ : Phi} {s : St} {w : World} (hr : Rel φ s w) {Q : Nat → AObj → Prop} {h' : PT AObj} (H : ∀ b o, h'.get b = some o → s.h.get b = some o ∨ Q b o)
    (hQ : ∀ b o, Q b o → ∃ r ro, φ.blk b = some (r, 0) ∧ w.heap[r]? = some ro ∧ OR φ 0 o ro ∧ ∀ b' sh, (s.h.get b').isSome = true → φ.blk b' ≠ some (r, sh))
    (dist : ∀ b o b' o' r, Q b o → Q b' o' → φ.blk b = some (r, 0) → φ.blk b' = some (r, 0) → b = b') : Rel φ { s with h := h' } w := by
  refine ⟨fun b o hb => ?_, fun b b' r sh sh' hb hb' h1 h2 => ?_, hr.fresh, hr.freshc, hr.glob, hr.gnx, hr.facts⟩
  · rcases H b o hb with h | h
    · exact hr.obj b o h
    · obtain ⟨r, ro, g1, g2, g3, _⟩ := hQ b o h
      exact ⟨r, 0, ro, g1, g2, g3⟩
  · obtain ⟨o, ho⟩ := Option.isSome_iff_exists.1 hb
    obtain ⟨o', ho'⟩ := Option.isSome_iff_exists.1 hb'
    rcases H b o ho with h | h
    · rcases H b' o' ho' with h' | h'
      · exact hr.inj b b' r sh sh' (by simp [h]) (by simp [h']) h1 h2
      · obtain ⟨r', ro, g1, g2, g3, g4⟩ := hQ b' o' h'
        rw [h2] at g1
        simp at g1
        obtain ⟨rfl, rfl⟩ := g1
        exact absurd h1 (g4 b sh (by simp [h]))
    · obtain ⟨r', ro, g1, g2, g3, g4⟩ := hQ b o h
      rw [h1] at g1
      simp at g1
      obtain ⟨rfl, rfl⟩ := g1
      rcases H b' o' ho' with h' | h'
      · exact absurd h2 (g4 b' sh' (by simp [h']))
      · obtain ⟨r', ro', q1, q2, q3, q4⟩ := hQ b' o' h'
        rw [h2] at q1
        simp at q1
        obtain ⟨rfl, rfl⟩ := q1
        exact dist b o b' o' r h h' h1 h2

theorem Stp.more {φ0 φ : Phi} {s0 s : St} {w0 w : World} (hs : Stp φ0 s0 w0 φ s w) {Q : Nat → AObj → Prop} {h' : PT AObj} (H : ∀ b o, h'.get b = some o → s.h.get b = some o ∨ Q b o)
    (hQ : ∀ b o, Q b o → ∃ r, φ.blk b = some (r, 0) ∧ w0.heap.size ≤ r) : Stp φ0 s0 w0 φ { s with h := h' } w := by
  refine ⟨hs.ext, fun b r sh hb h1 => ?_, hs.keep, hs.size, hs.os, hs.out, hs.tape, hs.nx, hs.nc, hs.old⟩
  obtain ⟨o, ho⟩ := Option.isSome_iff_exists.1 hb
  rcases H b o ho with h | h
  · exact hs.own b r sh (by simp [h]) h1
  · obtain ⟨r', g1, g2⟩ := hQ b o h
    rw [h1] at g1
    simp at g1
    obtain ⟨rfl, rfl⟩ := g1
    exact .inl g2

theorem flush_get {m : Nat} {b : Nat} {o : AObj} : ∀ {l : List (Nat × Nat × AObj)} {h : PT AObj}, (flush m l h).get b = some o → h.get b = some o ∨ ∃ j, (j, b, o) ∈ l ∧ bitOf m j = true
  | [], h, hb => .inl hb
  | (i, b0, o0) :: r, h, hb => by
    simp only [flush] at hb
    split at hb
    · rename_i hbit
      rcases flush_get hb with h1 | ⟨j, h1, h2⟩
      · rw [PT.get_set] at h1
        by_cases e : b = b0
        · subst e
          simp at h1
          subst h1
          exact .inr ⟨i, List.mem_cons_self .., hbit⟩
        · rw [if_neg e] at h1
          exact .inl h1
      · exact .inr ⟨j, List.mem_cons_of_mem _ h1, h2⟩
    · rcases flush_get hb with h1 | ⟨j, h1, h2⟩
      · exact .inl h1
      · exact .inr ⟨j, List.mem_cons_of_mem _ h1, h2⟩

/-- What was there stays. -/
theorem flush_old {m : Nat} {b : Nat} : ∀ {l : List (Nat × Nat × AObj)} {h : PT AObj}, (∀ j o, (j, b, o) ∈ l → bitOf m j = false) → (flush m l h).get b = h.get b
  | [], h, _ => rfl
  | (i, b0, o0) :: r, h, hn => by
    simp only [flush]
    split
    · rename_i hbit
      rw [flush_old fun j o hm => hn j o (List.mem_cons_of_mem _ hm), PT.get_set]
      rw [if_neg]
      rintro rfl
      have := hn i o0 (List.mem_cons_self ..)
      rw [hbit] at this
      simp at this
    · exact flush_old fun j o hm => hn j o (List.mem_cons_of_mem _ hm)

theorem flushAll_get {b : Nat} {o : AObj} : ∀ {l : List (Nat × Nat × AObj)} {h : PT AObj}, (flushAll l h).get b = some o → h.get b = some o ∨ ∃ j, (j, b, o) ∈ l
  | [], h, hb => .inl hb
  | (i, b0, o0) :: r, h, hb => by
    simp only [flushAll] at hb
    rcases flushAll_get hb with h1 | ⟨j, h1⟩
    · rw [PT.get_set] at h1
      by_cases e : b = b0
      · subst e
        simp at h1
        subst h1
        exact .inr ⟨i, List.mem_cons_self ..⟩
      · rw [if_neg e] at h1
        exact .inl h1
    · exact .inr ⟨j, List.mem_cons_of_mem _ h1⟩

theorem AllocAt.unique {j : Nat} {ob ob' : AObj} (h : AllocAt D ops gs base j ob) (h' : AllocAt D ops gs base j ob') : ob = ob' := by
  obtain ⟨o, v, s', h1, h2, h3, h4, h5⟩ := h
  obtain ⟨o', v', s'', g1, g2, g3, g4, g5⟩ := h'
  rw [h1] at g1
  simp at g1
  subst g1
  rw [h4] at g4
  simp at g4
  obtain ⟨rfl, rfl⟩ := g4
  rw [h5] at g5
  simpa using g5

/-- A block that is made and not yet in the state. -/
def Pend (D : Tab) (ops : Array Oper) (gs : Nat → Rg) (base : Nat) (E : Nat → Prop) (p j : Nat) (ob : AObj) : Prop := E j ∧ AllocAt D ops gs base j ob ∧ ∀ k, k < p → hv D ops gs k → anc ops k j = false

structure HeapInv (D : Tab) (ops : Array Oper) (gs : Nat → Rg) (base : Nat) (φ0 : Phi) (s0 : St) (w0 : World) (E : Nat → Prop) (p : Nat) (φ : Phi) (w : World) : Prop where
  rel : Rel φ (gs p).s w
  stp : Stp φ0 s0 w0 φ (gs p).s w
  nx : base + ops.size ≤ (gs p).s.nx
  pend : ∀ j ob, Pend D ops gs base E p j ob → ∃ r ro, φ.blk (base + j) = some (r, 0) ∧ w0.heap.size ≤ r ∧ w.heap[r]? = some ro ∧ OR φ 0 ob ro ∧ ∀ b sh, ((gs p).s.h.get b).isSome = true → φ.blk b ≠ some (r, sh)
  dist : ∀ j ob j' ob' r, Pend D ops gs base E p j ob → Pend D ops gs base E p j' ob' → φ.blk (base + j) = some (r, 0) → φ.blk (base + j') = some (r, 0) → j = j'
  fresh : ∀ j, j < ops.size → ¬ E j → φ.blk (base + j) = none

section
variable {φ0 φ : Phi} {s0 : St} {w0 w : World} {E : Nat → Prop} {p : Nat}

theorem HeapInv.move (h : HeapInv D ops gs base φ0 s0 w0 E p φ w) {q : Nat} (hs : (gs q).s = (gs p).s) (hk : ∀ k, hv D ops gs k → (k < p ↔ k < q)) : HeapInv D ops gs base φ0 s0 w0 E q φ w := by
  have hp : ∀ j ob, Pend D ops gs base E q j ob → Pend D ops gs base E p j ob := fun j ob ⟨h1, h2, h3⟩ => ⟨h1, h2, fun k hkp hh => h3 k ((hk k hh).1 hkp) hh⟩
  refine ⟨by rw [hs]; exact h.rel, by rw [hs]; exact h.stp, by rw [hs]; exact h.nx, fun j ob hj => ?_, fun j ob j' ob' r hj hj' => h.dist j ob j' ob' r (hp _ _ hj) (hp _ _ hj'), h.fresh⟩
  rw [hs]
  exact h.pend j ob (hp _ _ hj)

/-- With some of the made blocks in the state. -/
theorem HeapInv.flush (h : HeapInv D ops gs base φ0 s0 w0 E p φ w) {h' : PT AObj} (H : ∀ b o, h'.get b = some o → (gs p).s.h.get b = some o ∨ ∃ j, b = base + j ∧ Pend D ops gs base E p j o) :
    Rel φ { (gs p).s with h := h' } w ∧ Stp φ0 s0 w0 φ { (gs p).s with h := h' } w ∧
      ∀ j ob r, Pend D ops gs base E p j ob → φ.blk (base + j) = some (r, 0) → h'.get (base + j) = some ob ∨ ∀ b sh, (h'.get b).isSome = true → φ.blk b ≠ some (r, sh) := by
  refine ⟨h.rel.more H ?_ ?_, h.stp.more H ?_, ?_⟩
  · rintro b o ⟨j, rfl, hj⟩
    obtain ⟨r, ro, g1, g2, g3, g4, g5⟩ := h.pend j o hj
    exact ⟨r, ro, g1, g3, g4, g5⟩
  · rintro b o b' o' r ⟨j, rfl, hj⟩ ⟨j', rfl, hj'⟩ h1 h2
    rw [h.dist j o j' o' r hj hj' h1 h2]
  · rintro b o ⟨j, rfl, hj⟩
    obtain ⟨r, ro, g1, g2, g3, g4, g5⟩ := h.pend j o hj
    exact ⟨r, g1, g2⟩
  · intro j ob r hj hr
    obtain ⟨r', ro, g1, g2, g3, g4, g5⟩ := h.pend j ob hj
    rw [hr] at g1
    simp at g1
    subst g1
    have hnone : (gs p).s.h.get (base + j) = none := by
      cases hx : (gs p).s.h.get (base + j) with
      | none => rfl
      | some x => exact absurd hr (g5 (base + j) 0 (by simp [hx]))
    cases hx : h'.get (base + j) with
    | some o' =>
      left
      rcases H _ _ hx with h1 | ⟨j', h1, h2⟩
      · rw [hnone] at h1; simp at h1
      · have : j' = j := by omega
        subst this
        rw [h2.2.1.unique hj.2.1]
    | none =>
      right
      intro b sh hb hbr
      obtain ⟨o', ho'⟩ := Option.isSome_iff_exists.1 hb
      rcases H _ _ ho' with h1 | ⟨j', rfl, h2⟩
      · exact g5 b sh (by simp [h1]) hbr
      · obtain ⟨r', ro', q1, q2, q3, q4, q5⟩ := h.pend j' o' h2
        rw [hbr] at q1
        simp at q1
        obtain ⟨rfl, rfl⟩ := q1
        have := h.dist j ob j' o' r hj h2 hr hbr
        subst this
        rw [hx] at ho'
        simp at ho'

/-- An operation that is run at such a state and leaves it as it was. -/
theorem HeapInv.quiet (h : HeapInv D ops gs base φ0 s0 w0 E p φ w) {h' : PT AObj} (H : ∀ b o, h'.get b = some o → (gs p).s.h.get b = some o ∨ ∃ j, b = base + j ∧ Pend D ops gs base E p j o)
    (Hold : ∀ b o, (gs p).s.h.get b = some o → h'.get b = some o) {φ' : Phi} {w' : World} (hs : Stp φ { (gs p).s with h := h' } w φ' { (gs p).s with h := h' } w') (hr : Rel φ' { (gs p).s with h := h' } w') :
    HeapInv D ops gs base φ0 s0 w0 E p φ' w' := by
  obtain ⟨f1, f2, f3⟩ := h.flush H
  have hold' : ∀ b r sh, ((gs p).s.h.get b).isSome = true → φ'.blk b = some (r, sh) → φ.blk b = some (r, sh) := by
    intro b r sh hb hbr
    obtain ⟨o, ho⟩ := Option.isSome_iff_exists.1 hb
    obtain ⟨r', sh', ro, g1, _, _⟩ := h.rel.obj b o ho
    rw [hs.ext.blk _ _ g1] at hbr
    simp at hbr
    obtain ⟨rfl, rfl⟩ := hbr
    exact g1
  have hblk : ∀ j, j < ops.size → φ'.blk (base + j) = φ.blk (base + j) := fun j hj => hs.old _ (by have := h.nx; simp only; omega)
  have hjlt : ∀ j ob, Pend D ops gs base E p j ob → j < ops.size := by
    rintro j ob ⟨_, ⟨o, v, s', h1, _⟩, _⟩
    exact (Array.getElem?_eq_some_iff.1 h1).1
  have hl := hr.less (h' := (gs p).s.h) Hold
  refine ⟨hl.1, (f2.trans hs).trans hl.2, h.nx, fun j ob hj => ?_, fun j ob j' ob' r hj hj' h1 h2 => ?_, fun j hj hE => ?_⟩
  · obtain ⟨r, ro, g1, g2, g3, g4, g5⟩ := h.pend j ob hj
    have g5' : ∀ b sh, ((gs p).s.h.get b).isSome = true → φ'.blk b ≠ some (r, sh) := fun b sh hb hbr => g5 b sh hb (hold' b r sh hb hbr)
    rcases f3 j ob r hj g1 with h1 | h1
    · obtain ⟨r', sh', ro', q1, q2, q3⟩ := hr.obj (base + j) ob h1
      rw [hs.ext.blk _ _ g1] at q1
      simp at q1
      obtain ⟨rfl, rfl⟩ := q1
      exact ⟨r, ro', hs.ext.blk _ _ g1, g2, q2, q3, g5'⟩
    · refine ⟨r, ro, hs.ext.blk _ _ g1, g2, ?_, g4.mono hs.ext, g5'⟩
      rw [hs.keep r (Array.getElem?_eq_some_iff.1 g3).1 h1]
      exact g3
  · rw [hblk j (hjlt j ob hj)] at h1
    rw [hblk j' (hjlt j' ob' hj')] at h2
    exact h.dist j ob j' ob' r hj hj' h1 h2
  · rw [hblk j hj]
    exact h.fresh j hj hE

/-- An operation that changes the state. -/
theorem HeapInv.change (h : HeapInv D ops gs base φ0 s0 w0 E p φ w) {h' : PT AObj} (H : ∀ b o, h'.get b = some o → (gs p).s.h.get b = some o ∨ ∃ j, b = base + j ∧ Pend D ops gs base E p j o)
    {φ' : Phi} {w' : World} {q : Nat} (hs : Stp φ { (gs p).s with h := h' } w φ' (gs q).s w') (hr : Rel φ' (gs q).s w') {E' : Nat → Prop} (hE : ∀ j, E j → E' j)
    (Hp : ∀ j ob, Pend D ops gs base E' q j ob → Pend D ops gs base E p j ob ∧ h'.get (base + j) = none) : HeapInv D ops gs base φ0 s0 w0 E' q φ' w' := by
  obtain ⟨f1, f2, f3⟩ := h.flush H
  have hblk : ∀ j, j < ops.size → φ'.blk (base + j) = φ.blk (base + j) := fun j hj => hs.old _ (by have := h.nx; simp only; omega)
  have hjlt : ∀ j ob, Pend D ops gs base E p j ob → j < ops.size := by
    rintro j ob ⟨_, ⟨o, v, s', h1, _⟩, _⟩
    exact (Array.getElem?_eq_some_iff.1 h1).1
  refine ⟨hr, f2.trans hs, Nat.le_trans h.nx hs.nx, fun j ob hj => ?_, fun j ob j' ob' r hj hj' h1 h2 => ?_, fun j hj hE' => ?_⟩
  · obtain ⟨hj, hn⟩ := Hp j ob hj
    obtain ⟨r, ro, g1, g2, g3, g4, g5⟩ := h.pend j ob hj
    have hlt := (Array.getElem?_eq_some_iff.1 g3).1
    rcases f3 j ob r hj g1 with h1 | h1
    · rw [hn] at h1; simp at h1
    · refine ⟨r, ro, hs.ext.blk _ _ g1, g2, ?_, g4.mono hs.ext, fun b sh hb hbr => ?_⟩
      · rw [hs.keep r hlt h1]
        exact g3
      · rcases hs.own b r sh hb hbr with h2 | ⟨b0, sh0, h2, h3⟩
        · omega
        · exact h1 b0 sh0 h2 h3
  · obtain ⟨hj, _⟩ := Hp j ob hj
    obtain ⟨hj', _⟩ := Hp j' ob' hj'
    rw [hblk j (hjlt j ob hj)] at h1
    rw [hblk j' (hjlt j' ob' hj')] at h2
    exact h.dist j ob j' ob' r hj hj' h1 h2
  · rw [hblk j hj]
    exact h.fresh j hj fun h => hE' (hE j h)

/-- A block that is made. -/
theorem HeapInv.made (h : HeapInv D ops gs base φ0 s0 w0 E p φ w) {i : Nat} (hi : i < ops.size) (hiE : ¬ E i) {ob : AObj} {ro : Obj} (ha : AllocAt D ops gs base i ob) (ho : OR φ 0 ob ro) (hbase : s0.nx ≤ base) {E' : Nat → Prop} (hE : ∀ j, E' j ↔ j = i ∨ E j) :
    HeapInv D ops gs base φ0 s0 w0 E' p (φ.setB (base + i) (w.heap.size, 0)) { w with heap := w.heap.push ro } ∧ φ.le (φ.setB (base + i) (w.heap.size, 0)) := by
  have hnone := h.fresh i hi hiE
  have hle : φ.le (φ.setB (base + i) (w.heap.size, 0)) := Phi.le_setB hnone
  have hnot : (gs p).s.h.get (base + i) = none := by
    cases hx : (gs p).s.h.get (base + i) with
    | none => rfl
    | some x => obtain ⟨r, sh, ro, h1, _⟩ := h.rel.obj _ x hx; rw [hnone] at h1; simp at h1
  have hne : ∀ b, b ≠ base + i → (φ.setB (base + i) (w.heap.size, 0)).blk b = φ.blk b := fun b hb => by simp [Phi.setB, hb]
  have heq : (φ.setB (base + i) (w.heap.size, 0)).blk (base + i) = some (w.heap.size, 0) := by simp [Phi.setB]
  have hdom : ∀ b, ((gs p).s.h.get b).isSome = true → b ≠ base + i := by
    rintro b hb rfl
    rw [hnot] at hb; simp at hb
  have hold : ∀ r, r < w.heap.size → (w.heap.push ro)[r]? = w.heap[r]? := fun r hr => by simp [Array.getElem?_push, Nat.ne_of_lt hr]
  have hG : ¬ base + i < GB := fun hc => by rw [h.rel.glob _ hc] at hnone; simp at hnone
  have hPend : ∀ j ob', Pend D ops gs base E' p j ob' → j = i ∨ Pend D ops gs base E p j ob' := by
    rintro j ob' ⟨h1, h2, h3⟩
    rcases (hE j).1 h1 with h1 | h1
    · exact .inl h1
    · exact .inr ⟨h1, h2, h3⟩
  have hlt : ∀ j ob', Pend D ops gs base E p j ob' → j ≠ i := by
    rintro j ob' ⟨h1, _, _⟩ rfl
    exact hiE h1
  refine ⟨⟨⟨?_, ?_, ?_, h.rel.freshc, ?_, h.rel.gnx, h.rel.facts⟩, ⟨h.stp.ext.trans hle, ?_, ?_, ?_, h.stp.os, h.stp.out, h.stp.tape, h.stp.nx, h.stp.nc, ?_⟩, h.nx, ?_, ?_, ?_⟩, hle⟩
  · intro b o hb
    obtain ⟨r, sh, ro', h1, h2, h3⟩ := h.rel.obj b o hb
    refine ⟨r, sh, ro', by rw [hne b (hdom b (by simp [hb]))]; exact h1, ?_, h3.mono hle⟩
    simp only [hold r (Array.getElem?_eq_some_iff.1 h2).1]
    exact h2
  · intro b b' r sh sh' hb hb' h1 h2
    rw [hne b (hdom b hb)] at h1
    rw [hne b' (hdom b' hb')] at h2
    exact h.rel.inj b b' r sh sh' hb hb' h1 h2
  · intro b hb
    rw [hne b (by have := h.nx; omega)]
    exact h.rel.fresh b hb
  · intro g hg
    rw [hne g (by rintro rfl; exact hG hg)]
    exact h.rel.glob g hg
  · intro b r sh hb h1
    rw [hne b (hdom b hb)] at h1
    exact h.stp.own b r sh hb h1
  · intro r hr hn
    have := h.stp.keep r hr hn
    simp only [hold r (Nat.lt_of_lt_of_le hr h.stp.size)]
    exact this
  · have := h.stp.size
    simp; omega
  · intro b hb
    rw [hne b (by omega)]
    exact h.stp.old b hb
  · intro j ob' hj
    rcases hPend j ob' hj with rfl | hj'
    · have := hj.2.1.unique ha
      subst this
      refine ⟨w.heap.size, ro, heq, h.stp.size, by simp, ho.mono hle, fun b sh hb hbr => ?_⟩
      rw [hne b (hdom b hb)] at hbr
      obtain ⟨o, ho'⟩ := Option.isSome_iff_exists.1 hb
      obtain ⟨r, sh', ro', h1, h2, h3⟩ := h.rel.obj b o ho'
      rw [hbr] at h1
      simp at h1
      obtain ⟨rfl, rfl⟩ := h1
      have := (Array.getElem?_eq_some_iff.1 h2).1
      omega
    · obtain ⟨r, ro', g1, g2, g3, g4, g5⟩ := h.pend j ob' hj'
      refine ⟨r, ro', hle.blk _ _ g1, g2, ?_, g4.mono hle, fun b sh hb hbr => ?_⟩
      · simp only [hold r (Array.getElem?_eq_some_iff.1 g3).1]
        exact g3
      · rw [hne b (hdom b hb)] at hbr
        exact g5 b sh hb hbr
  · intro j o1 j' o2 r hj hj' h1 h2
    rcases hPend j o1 hj with rfl | hj
    · rcases hPend j' o2 hj' with rfl | hj'
      · rfl
      · rw [heq] at h1
        rw [hne _ (by have := hlt j' o2 hj'; omega)] at h2
        obtain ⟨r', ro', g1, g2, g3, g4, g5⟩ := h.pend j' o2 hj'
        rw [h2] at g1
        simp at g1 h1
        have := (Array.getElem?_eq_some_iff.1 g3).1
        omega
    · rcases hPend j' o2 hj' with rfl | hj'
      · rw [heq] at h2
        rw [hne _ (by have := hlt j o1 hj; omega)] at h1
        obtain ⟨r', ro', g1, g2, g3, g4, g5⟩ := h.pend j o1 hj
        rw [h1] at g1
        simp at g1 h2
        have := (Array.getElem?_eq_some_iff.1 g3).1
        omega
      · rw [hne _ (by have := hlt j o1 hj; omega)] at h1
        rw [hne _ (by have := hlt j' o2 hj'; omega)] at h2
        exact h.dist j o1 j' o2 r hj hj' h1 h2
  · intro j hj hE'
    have h1 : j ≠ i := fun e => hE' ((hE j).2 (.inl e))
    rw [hne _ (by omega)]
    exact h.fresh j hj fun h => hE' ((hE j).2 (.inr h))

/-- Nothing is made: what is done grows. -/
theorem HeapInv.grow (h : HeapInv D ops gs base φ0 s0 w0 E p φ w) {E' : Nat → Prop} {i : Nat} (hE : ∀ j, E' j ↔ j = i ∨ E j) (hn : ∀ ob, ¬ AllocAt D ops gs base i ob) : HeapInv D ops gs base φ0 s0 w0 E' p φ w := by
  have hP : ∀ j ob, Pend D ops gs base E' p j ob → Pend D ops gs base E p j ob := by
    rintro j ob ⟨h1, h2, h3⟩
    rcases (hE j).1 h1 with rfl | h1
    · exact absurd h2 (hn ob)
    · exact ⟨h1, h2, h3⟩
  exact ⟨h.rel, h.stp, h.nx, fun j ob hj => h.pend j ob (hP j ob hj), fun j ob j' ob' r hj hj' => h.dist j ob j' ob' r (hP _ _ hj) (hP _ _ hj'), fun j hj hE' => h.fresh j hj fun h => hE' ((hE j).2 (.inr h))⟩

end
end Go.Eng
