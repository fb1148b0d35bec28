/-
  The abstract interpreter, its soundness: the walk over a region that draws, in the order of the text.
-/
import Derived.Test.YtabjigkabgecaaaGreatDoorEng26
namespace Go.Eng
variable {P : Program} {D : Tab} {ops : Array Oper} {rec : Rec} {mg : Merge} {base n : Nat}

theorem bytesEq_data {x y : ByteArray} (h : bytesEq x.data.toList y.data.toList = true) : x = y := by
  have := bytesEq_iff.1 h
  cases x; cases y
  simp at this
  subst this
  rfl

theorem same1_ok {a b : AV} (h : same1 a b = true) : a = b := by
  unfold same1 at h
  split at h <;> (try simp only [Bool.and_eq_true, decide_eq_true_eq, beq_iff_eq, Bool.false_eq_true] at h)
  · rw [h]
  · rw [h.1, h.2]
  · rw [bytesEq_data h]
  · rfl
  · rw [beq_true h.1, beq_true h.2]
  · rfl
  · obtain ⟨⟨⟨h1, h2⟩, h3⟩, h4⟩ := h
    rw [beq_true h1, beq_true h2, beq_true h3, beq_true h4]
  · obtain ⟨⟨⟨⟨h1, h2⟩, h3⟩, h4⟩, h5⟩ := h
    rw [beq_true h1, beq_true h2, beq_true h3, beq_true h4, beq_true h5]
  · rw [h]
  · rw [beq_true h]
  · rw [h.1, Tm.beq_eq h.2]
  · rfl
  · rw [beq_true h]
  · rfl
  · rfl
  · rw [beq_true h]
  · rw [beq_true h]
theorem sames_ok : ∀ {a b : List AV}, sames a b = true → a = b
  | [], [], _ => rfl
  | [], _ :: _, h => by simp [sames] at h
  | _ :: _, [], h => by simp [sames] at h
  | x :: a, y :: b, h => by
    simp only [sames, Bool.and_eq_true] at h
    rw [same1_ok h.1, sames_ok h.2]
theorem same_ok {a b : AV} (h : same a b = true) : a = b := by
  unfold same at h
  split at h
  · rw [sames_ok h]
  · rw [sames_ok h]
  · exact same1_ok h

theorem cut_get {T : PT AV} : ∀ {l : List Nat} {t : Nat} {x : AV}, (cut T l).get t = some x → t ∈ l ∧ T.get t = some x
  | [], t, x, h => by simp [cut] at h
  | u :: r, t, x, h => by
    simp only [cut] at h
    split at h
    · rename_i y hy
      rw [PT.get_set] at h
      by_cases e : t = u
      · subst e
        simp at h
        subst h
        exact ⟨List.mem_cons_self .., hy⟩
      · rw [if_neg e] at h
        obtain ⟨h1, h2⟩ := cut_get h
        exact ⟨List.mem_cons_of_mem _ h1, h2⟩
    · obtain ⟨h1, h2⟩ := cut_get h
      exact ⟨List.mem_cons_of_mem _ h1, h2⟩

theorem readAt_ok {T : PT AV} {s : St} {op : Op} {v : AV} (h : readAt D T s op = some v) : ∃ s', opA D T s op = some (.val v s') := by
  unfold readAt at h
  split at h
  · simp at h; subst h; exact ⟨_, by assumption⟩
  · simp at h

/-- What 'drawOne' does. -/
inductive One (D : Tab) (rec : Rec) (mg : Merge) (ops : Array Oper) (base n i : Nat) (o : Oper) (m : Nat) (g : Rg) (T : PT AV) : Rg → Prop
  | skip (hg : guardOk T ops o = some false) : One D rec mg ops base n i o m g T { g with t := putA g.t n o.dst .undef }
  | pure (v : AV) (s' : St) (hg : guardOk T ops o = some true) (hk : kindOf D o.op = .pure) (h : opA D T g.s o.op = some (.val v s')) : One D rec mg ops base n i o m g T { g with t := putA g.t n o.dst v }
  | read (v : AV) (hg : guardOk T ops o = some true) (hk : kindOf D o.op = .read) (h : readAt D T { g.s with h := flush m g.pend g.s.h } o.op = some v) (hp : pastOk D T o.op m g.pend v g.past = true) :
      One D rec mg ops base n i o m g T { g with t := putA g.t n o.dst v, reads := (i, o.op, T, v) :: g.reads }
  | alloc (v : AV) (s' : St) (ob : AObj) (hg : guardOk T ops o = some true) (hk : kindOf D o.op = .alloc) (h : opA D T { g.s with nx := base + i } o.op = some (.val v s')) (ho : s'.h.get (base + i) = some ob) :
      One D rec mg ops base n i o m g T { g with t := putA g.t n o.dst v, pend := (i, base + i, ob) :: g.pend }
  | heavy (v : AV) (s' : St) (reads : List (Nat × Op × PT AV × AV)) (hg : guardOk T ops o = some true) (hk : kindOf D o.op = .heavy) (hp : allPast m g.past = true) (h : oper D rec mg T { g.s with h := flush m g.pend g.s.h } o.op = some [(v, s')])
      (hr : readsOk D (masks ops.toList) m (keep m g.pend) s' g.reads = some reads) : One D rec mg ops base n i o m g T { t := putA g.t n o.dst v, s := s', pend := keep m g.pend, past := (i, g.s) :: g.past, reads }

theorem drawOne_view {i : Nat} {o : Oper} {m : Nat} {g g' : Rg} {T : PT AV} (h : drawOne D rec mg ops (masks ops.toList) base n i o m g T = some g') : One D rec mg ops base n i o m g T g' := by
  unfold drawOne at h
  split at h
  · simp at h
  · rename_i hg; simp at h; subst h; exact .skip hg
  · rename_i hg
    split at h
    · rename_i hk
      split at h
      · simp at h
      · rename_i v hv
        obtain ⟨s', hv⟩ := readAt_ok hv
        simp at h; subst h; exact .pure v s' hg hk hv
    · rename_i hk
      split at h
      · simp at h
      · rename_i v hv
        split at h
        · rename_i hp; simp at h; subst h; exact .read v hg hk hv hp
        · simp at h
    · rename_i hk
      split at h
      · rename_i v s' hv
        split at h
        · rename_i ob hob; simp at h; subst h; exact .alloc v s' ob hg hk hv hob
        · simp at h
      · simp at h
    · rename_i hk
      split at h
      · rename_i hp
        split at h
        · rename_i v s' hv
          split at h
          · rename_i reads hr; simp at h; subst h; exact .heavy v s' reads hg hk hp hv hr
          · simp at h
        · simp at h
      · simp at h

theorem drawOps_trace {ms : List Nat} : ∀ (l : List (Oper × Nat)) (i : Nat) (g g' : Rg), drawOps D rec mg ops ms base n i l g = some g' →
    ∃ gs : Nat → Rg, gs i = g ∧ gs (i + l.length) = g' ∧ ∀ k o m, l[k]? = some (o, m) → drawOne D rec mg ops ms base n (i + k) o m (gs (i + k)) (cut (gs (i + k)).t (looksOf ops o)) = some (gs (i + k + 1))
  | [], i, g, g', h => by
    simp [drawOps] at h
    subst h
    exact ⟨fun _ => g, rfl, rfl, by simp⟩
  | (o, m) :: r, i, g, g', h => by
    simp only [drawOps] at h
    split at h
    · rename_i g1 h1
      obtain ⟨gs, e1, e2, e3⟩ := drawOps_trace r (i + 1) g1 g' h
      refine ⟨fun j => if j = i then g else gs j, by simp, ?_, ?_⟩
      · have : i + (r.length + 1) ≠ i := by omega
        have e : i + (r.length + 1) = i + 1 + r.length := by omega
        simp only [List.length_cons, this, if_false]
        rw [e]; exact e2
      · intro k o' m' hk
        cases k with
        | zero =>
          simp at hk
          obtain ⟨rfl, rfl⟩ := hk
          have : i + 0 + 1 ≠ i := by omega
          simp only [Nat.add_zero, if_true, this, if_false, e1]
          simpa using h1
        | succ k =>
          have a1 : i + (k + 1) ≠ i := by omega
          have a2 : i + (k + 1) + 1 ≠ i := by omega
          have := e3 k o' m' (by simpa using hk)
          have a3 : i + 1 + k = i + (k + 1) := by omega
          simp only [a1, a2, if_false]
          rw [a3] at this
          exact this
    · simp at h

/-- The walk. -/
def Walk (D : Tab) (rec : Rec) (mg : Merge) (ops : Array Oper) (base n : Nat) (gs : Nat → Rg) : Prop :=
  ∀ i o, ops[i]? = some o → One D rec mg ops base n i o ((masks ops.toList)[i]?.getD 0) (gs i) (cut (gs i).t (looksOf ops o)) (gs (i + 1))

def hv (D : Tab) (ops : Array Oper) (gs : Nat → Rg) (i : Nat) : Prop := ∃ o, ops[i]? = some o ∧ guardOk (cut (gs i).t (looksOf ops o)) ops o = some true ∧ kindOf D o.op = .heavy

section
variable {gs : Nat → Rg} (hw : Walk D rec mg ops base n gs)
include hw

theorem walk_s {i : Nat} {o : Oper} (ho : ops[i]? = some o) (h : ¬ hv D ops gs i) : (gs (i + 1)).s = (gs i).s ∧ (gs (i + 1)).past = (gs i).past := by
  have := hw i o ho
  revert this
  generalize gs (i + 1) = g'
  intro this
  cases this with
  | heavy v s' reads hg hk hp hop hr => exact absurd ⟨o, ho, hg, hk⟩ h
  | _ => exact ⟨rfl, rfl⟩

theorem walk_s_range {p q : Nat} (hpq : p ≤ q) (hq : q ≤ ops.size) (h : ∀ k, p ≤ k → k < q → ¬ hv D ops gs k) : (gs q).s = (gs p).s := by
  induction q with
  | zero => have : p = 0 := by omega
            rw [this]
  | succ q ih =>
    by_cases e : p = q + 1
    · rw [e]
    · rw [(walk_s hw (o := ops[q]) (by simp [show q < ops.size by omega]) (h q (by omega) (by omega))).1]
      exact ih (by omega) (by omega) fun k h1 h2 => h k h1 (by omega)

theorem walk_t {i : Nat} {o : Oper} (ho : ops[i]? = some o) : ∃ v, (gs (i + 1)).t = putA (gs i).t n o.dst v := by
  have := hw i o ho
  revert this
  generalize gs (i + 1) = g'
  intro this
  cases this <;> exact ⟨_, rfl⟩

omit hw in
theorem putA_ne {T : PT AV} {n : Nat} {d : Option Tmp} {v : AV} {t : Nat} (h : d ≠ some t) : (putA T n d v).get t = T.get t := by
  unfold putA
  split
  · rename_i d
    split
    · rw [PT.get_set, if_neg (by rintro rfl; exact h rfl)]
    · rfl
  · rfl

theorem walk_t_range {t p q : Nat} (hpq : p ≤ q) (hq : q ≤ ops.size) (h : ∀ k o, p ≤ k → k < q → ops[k]? = some o → o.dst ≠ some t) : (gs q).t.get t = (gs p).t.get t := by
  induction q with
  | zero => have : p = 0 := by omega
            rw [this]
  | succ q ih =>
    by_cases e : p = q + 1
    · rw [e]
    · have ho : ops[q]? = some ops[q] := by simp [show q < ops.size by omega]
      obtain ⟨v, hv⟩ := walk_t hw ho
      rw [hv, putA_ne (h q _ (by omega) (by omega) ho)]
      exact ih (by omega) (by omega) fun k o h1 h2 => h k o h1 (by omega)

/-- A heavy operation: the one ahead of it is ahead in every order. -/
theorem walk_past (h0 : (gs 0).past = []) : ∀ (q : Nat), q ≤ ops.size → (∀ k s, (k, s) ∈ (gs q).past.head? → hv D ops gs k ∧ k < q ∧ ∀ k', k < k' → k' < q → ¬ hv D ops gs k') ∧ ((gs q).past = [] → ∀ k', k' < q → ¬ hv D ops gs k')
  | 0, _ => by simp [h0]
  | q + 1, hq => by
    obtain ⟨h1, h2⟩ := walk_past h0 q (by omega)
    have ho : ops[q]? = some ops[q] := by simp [show q < ops.size by omega]
    by_cases hh : hv D ops gs q
    · obtain ⟨o, ho', hg, hk⟩ := hh
      have hone := hw q o ho'
      revert hone
      generalize hgg : gs (q + 1) = g'
      intro hone
      cases hone with
      | heavy v s' reads hg' hk' hp hop hr =>
        refine ⟨?_, by simp⟩
        intro k s hks
        simp at hks
        obtain ⟨rfl, rfl⟩ := hks
        exact ⟨⟨o, ho', hg, hk⟩, by omega, fun k' h3 h4 => by omega⟩
      | skip hg' => rw [hg] at hg'; simp at hg'
      | pure v s' hg' hk' => rw [hk] at hk'; simp at hk'
      | read v hg' hk' => rw [hk] at hk'; simp at hk'
      | alloc v s' ob hg' hk' => rw [hk] at hk'; simp at hk'
    · rw [(walk_s hw ho hh).2]
      refine ⟨fun k s hks => ?_, fun hn k' hk' => ?_⟩
      · obtain ⟨g1, g2, g3⟩ := h1 k s hks
        refine ⟨g1, by omega, fun k' h3 h4 => ?_⟩
        by_cases e : k' = q
        · rw [e]; exact hh
        · exact g3 k' h3 (by omega)
      · by_cases e : k' = q
        · rw [e]; exact hh
        · exact h2 hn k' (by omega)

/-- Of two heavy operations the former is done if the latter is, or is about to be. -/
theorem walk_chain (h0 : (gs 0).past = []) {E : Nat → Prop} (hE : ∀ i j, hv D ops gs i → (E i) → anc ops i j = true → E j) : ∀ (i : Nat), hv D ops gs i → (∀ j, anc ops i j = true → E j) → ∀ j, j < i → hv D ops gs j → E j := by
  intro i
  induction i using Nat.strongRecOn with
  | _ i ih =>
    intro hi hanc j hj hhj
    obtain ⟨o, ho, hg, hk⟩ := hi
    have hsz : i < ops.size := (Array.getElem?_eq_some_iff.1 ho).1
    have hone := hw i o ho
    revert hone
    generalize hgg : gs (i + 1) = g'
    intro hone
    cases hone with
    | heavy v s' reads hg' hk' hp hop hr =>
      obtain ⟨h1, h2⟩ := walk_past hw h0 i (by omega)
      cases hpast : (gs i).past with
      | nil => exact absurd hhj (h2 hpast j hj)
      | cons x r =>
        obtain ⟨k, s⟩ := x
        rw [hpast] at hp
        obtain ⟨g1, g2, g3⟩ := h1 k s (by simp [hpast])
        have hkE : E k := hanc k hp
        rcases Nat.lt_trichotomy j k with h | h | h
        · exact ih k g2 g1 (fun j' hj' => hE k j' g1 hkE hj') j h hhj
        · rw [h]; exact hkE
        · exact absurd hhj (g3 j h hj)
    | skip hg' => rw [hg] at hg'; simp at hg'
    | pure v s' hg' hk' => rw [hk] at hk'; simp at hk'
    | read v hg' hk' => rw [hk] at hk'; simp at hk'
    | alloc v s' ob hg' hk' => rw [hk] at hk'; simp at hk'

/-- What is read at a state further back. -/
theorem past_read {T : PT AV} {op : Op} {m : Nat} {pend : List (Nat × Nat × AObj)} {v : AV} {p : Nat} : ∀ (q : Nat), q ≤ ops.size → p ≤ q → pastOk D T op m pend v (gs q).past = true → (∀ k, p ≤ k → k < q → hv D ops gs k → bitOf m k = false) →
    (∃ k, p ≤ k ∧ k < q ∧ hv D ops gs k) → ∃ u, readAt D T { (gs p).s with h := flush m pend (gs p).s.h } op = some u ∧ same u v = true
  | 0, _, _, _, _, h => by obtain ⟨k, h1, h2, _⟩ := h; omega
  | q + 1, hq, hpq, hp, hb, hex => by
    have ho : ops[q]? = some ops[q] := by simp [show q < ops.size by omega]
    have hpq' : p ≤ q := by obtain ⟨k, h1, h2, _⟩ := hex; omega
    by_cases hh : hv D ops gs q
    · have hbq := hb q hpq' (by omega) hh
      obtain ⟨o, ho', hg, hk⟩ := hh
      have hone := hw q o ho'
      revert hone hp
      generalize hgg : gs (q + 1) = g'
      intro hp hone
      cases hone with
      | heavy v' s' reads hg' hk' hpp hop hr =>
        simp only [pastOk, hbq, Bool.false_eq_true, if_false, Bool.and_eq_true] at hp
        by_cases hex' : ∃ k, p ≤ k ∧ k < q ∧ hv D ops gs k
        · exact past_read q (by omega) hpq' hp.2 (fun k h1 h2 => hb k h1 (by omega)) hex'
        · have := walk_s_range hw hpq' (by omega) (fun k h1 h2 h3 => hex' ⟨k, h1, h2, h3⟩)
          rw [← this]
          have h1 := hp.1
          split at h1
          · rename_i u hu; exact ⟨u, hu, h1⟩
          · simp at h1
      | skip hg' => rw [hg] at hg'; simp at hg'
      | pure v s' hg' hk' => rw [hk] at hk'; simp at hk'
      | read v hg' hk' => rw [hk] at hk'; simp at hk'
      | alloc v s' ob hg' hk' => rw [hk] at hk'; simp at hk'
    · rw [(walk_s hw ho hh).2] at hp
      refine past_read q (by omega) hpq' hp (fun k h1 h2 => hb k h1 (by omega)) ?_
      obtain ⟨k, h1, h2, h3⟩ := hex
      refine ⟨k, h1, ?_, h3⟩
      by_cases e : k = q
      · rw [e] at h3; exact absurd h3 hh
      · omega

omit hw in
theorem readsOk_mem {ms : List Nat} {m : Nat} {pend : List (Nat × Nat × AObj)} {s : St} {i : Nat} {op : Op} {T : PT AV} {v : AV} : ∀ {l l' : List (Nat × Op × PT AV × AV)}, readsOk D ms m pend s l = some l' → (i, op, T, v) ∈ l → bitOf m i = false →
    (i, op, T, v) ∈ l' ∧ ∃ u, readAt D T { s with h := flush (ms[i]?.getD 0) pend s.h } op = some u ∧ same u v = true
  | [], l', h, hm, hb => by simp at hm
  | (i0, op0, T0, v0) :: r, l', h, hm, hb => by
    simp only [readsOk] at h
    split at h
    · rename_i hb0
      rcases List.mem_cons.1 hm with hm | hm
      · simp at hm
        obtain ⟨rfl, rfl, rfl, rfl⟩ := hm
        rw [hb] at hb0; simp at hb0
      · exact readsOk_mem h hm hb
    · split at h
      · rename_i u hu
        split at h
        · rename_i hs
          split at h
          · rename_i l2 hl2
            simp at h
            subst h
            rcases List.mem_cons.1 hm with hm | hm
            · simp at hm
              obtain ⟨rfl, rfl, rfl, rfl⟩ := hm
              exact ⟨List.mem_cons_self .., u, hu, hs⟩
            · obtain ⟨g1, g2⟩ := readsOk_mem hl2 hm hb
              exact ⟨List.mem_cons_of_mem _ g1, g2⟩
          · simp at h
        · simp at h
      · simp at h

/-- What is read at a state further on. -/
theorem next_read {i : Nat} {op : Op} {T : PT AV} {v : AV} : ∀ (q : Nat), i + 1 ≤ q → q ≤ ops.size → (i, op, T, v) ∈ (gs (i + 1)).reads → (∀ k, i < k → k < q → hv D ops gs k → anc ops k i = false) →
    (i, op, T, v) ∈ (gs q).reads ∧ ((∃ k, i < k ∧ k < q ∧ hv D ops gs k) → ∃ k, i < k ∧ k < q ∧ (gs (k + 1)).s = (gs q).s ∧ (∀ k', k < k' → k' < q → ¬ hv D ops gs k') ∧ ∃ u, readAt D T { (gs q).s with h := flush ((masks ops.toList)[i]?.getD 0) (gs (k + 1)).pend (gs q).s.h } op = some u ∧ same u v = true)
  | 0, h, _, _, _ => by omega
  | q + 1, hq1, hq, hm, hb => by
    by_cases e : i = q
    · subst e
      exact ⟨hm, fun ⟨k, h1, h2, _⟩ => by omega⟩
    · obtain ⟨g1, g2⟩ := next_read q (by omega) (by omega) hm fun k h1 h2 => hb k h1 (by omega)
      have ho : ops[q]? = some ops[q] := by simp [show q < ops.size by omega]
      have hone := hw q _ ho
      by_cases hh : hv D ops gs q
      · have hbq := hb q (by omega) (by omega) hh
        obtain ⟨o, ho', hg, hk⟩ := hh
        rw [ho] at ho'
        simp at ho'
        subst ho'
        revert hone
        generalize hgg : gs (q + 1) = g'
        intro hone
        cases hone with
        | heavy v' s' reads hg' hk' hpp hop hr =>
          obtain ⟨q1, q2⟩ := readsOk_mem hr g1 hbq
          refine ⟨q1, fun _ => ⟨q, by omega, by omega, by rw [hgg], fun k' h1 h2 => by omega, ?_⟩⟩
          rw [hgg]
          exact q2
        | skip hg' => rw [hg] at hg'; simp at hg'
        | pure v s' hg' hk' => rw [hk] at hk'; simp at hk'
        | read v hg' hk' => rw [hk] at hk'; simp at hk'
        | alloc v s' ob hg' hk' => rw [hk] at hk'; simp at hk'
      · have hs := (walk_s hw ho hh).1
        have hr' : (i, op, T, v) ∈ (gs (q + 1)).reads := by
          revert hone
          generalize gs (q + 1) = g'
          intro hone
          cases hone with
          | heavy v' s' reads hg' hk' => exact absurd ⟨_, ho, hg', hk'⟩ hh
          | read => exact List.mem_cons_of_mem _ g1
          | _ => exact g1
        refine ⟨hr', ?_⟩
        rintro ⟨k, h1, h2, h3⟩
        have hkq : k < q := by
          by_cases e : k = q
          · rw [e] at h3; exact absurd h3 hh
          · omega
        obtain ⟨k, a1, a2, a3, a4, a5⟩ := g2 ⟨k, h1, hkq, h3⟩
        rw [hs]
        refine ⟨k, a1, by omega, a3, fun k' h1 h2 => ?_, a5⟩
        by_cases e : k' = q
        · rw [e]; exact hh
        · exact a4 k' h1 (by omega)

/-- A block made in the region. -/
def AllocAt (D : Tab) (ops : Array Oper) (gs : Nat → Rg) (base j : Nat) (ob : AObj) : Prop :=
  ∃ o v s', ops[j]? = some o ∧ guardOk (cut (gs j).t (looksOf ops o)) ops o = some true ∧ kindOf D o.op = .alloc ∧ opA D (cut (gs j).t (looksOf ops o)) { (gs j).s with nx := base + j } o.op = some (.val v s') ∧ s'.h.get (base + j) = some ob

omit hw in
theorem keep_mem {m : Nat} {x : Nat × Nat × AObj} : ∀ {l : List (Nat × Nat × AObj)}, x ∈ keep m l → x ∈ l ∧ bitOf m x.1 = false
  | [], h => by simp [keep] at h
  | (i, b, o) :: r, h => by
    simp only [keep] at h
    split at h
    · obtain ⟨h1, h2⟩ := keep_mem h
      exact ⟨List.mem_cons_of_mem _ h1, h2⟩
    · rename_i hb
      rcases List.mem_cons.1 h with rfl | h
      · exact ⟨List.mem_cons_self .., by simpa using hb⟩
      · obtain ⟨h1, h2⟩ := keep_mem h
        exact ⟨List.mem_cons_of_mem _ h1, h2⟩

theorem walk_pend (hf : Fwd ops) (h0 : (gs 0).pend = []) {j b : Nat} {ob : AObj} : ∀ (q : Nat), q ≤ ops.size → (j, b, ob) ∈ (gs q).pend → j < q ∧ b = base + j ∧ AllocAt D ops gs base j ob ∧ ∀ k, k < q → hv D ops gs k → anc ops k j = false
  | 0, _, h => by simp [h0] at h
  | q + 1, hq, h => by
    have ho : ops[q]? = some ops[q] := by simp [show q < ops.size by omega]
    have hone := hw q _ ho
    have hout : hv D ops gs q ∨ ¬ hv D ops gs q := Classical.em _
    have old : ∀ (_ : (j, b, ob) ∈ (gs q).pend), (hv D ops gs q → anc ops q j = false) → j < q + 1 ∧ b = base + j ∧ AllocAt D ops gs base j ob ∧ ∀ k, k < q + 1 → hv D ops gs k → anc ops k j = false := by
      intro hm hb
      obtain ⟨g1, g2, g3, g4⟩ := walk_pend hf h0 q (by omega) hm
      refine ⟨by omega, g2, g3, fun k hk hh => ?_⟩
      by_cases e : k = q
      · rw [e] at hh ⊢; exact hb hh
      · exact g4 k (by omega) hh
    revert hone h
    generalize gs (q + 1) = g'
    intro h hone
    cases hone with
    | heavy v' s' reads hg' hk' hpp hop hr =>
      obtain ⟨h1, h2⟩ := keep_mem h
      exact old h1 fun _ => h2
    | alloc v s' ob' hg' hk' hop hob =>
      rcases List.mem_cons.1 h with h | h
      · simp at h
        obtain ⟨rfl, rfl, rfl⟩ := h
        refine ⟨by omega, rfl, ⟨_, v, s', ho, hg', hk', hop, hob⟩, fun k hk hh => ?_⟩
        cases hb : anc ops k j with
        | false => rfl
        | true =>
          have := anc_lt hf k j ops[k] (by simp [show k < ops.size by omega]) hb
          omega
      · refine old h fun hh => ?_
        obtain ⟨o, ho', hg, hk⟩ := hh
        rw [ho] at ho'
        simp at ho'
        subst ho'
        rw [hk] at hk'; simp at hk'
    | skip hg' =>
      refine old h fun hh => ?_
      obtain ⟨o, ho', hg, hk⟩ := hh
      rw [ho] at ho'; simp at ho'; subst ho'
      rw [hg] at hg'; simp at hg'
    | pure v s' hg' hk' =>
      refine old h fun hh => ?_
      obtain ⟨o, ho', hg, hk⟩ := hh
      rw [ho] at ho'; simp at ho'; subst ho'
      rw [hk] at hk'; simp at hk'
    | read v hg' hk' =>
      refine old h fun hh => ?_
      obtain ⟨o, ho', hg, hk⟩ := hh
      rw [ho] at ho'; simp at ho'; subst ho'
      rw [hk] at hk'; simp at hk'

end
end Go.Eng
