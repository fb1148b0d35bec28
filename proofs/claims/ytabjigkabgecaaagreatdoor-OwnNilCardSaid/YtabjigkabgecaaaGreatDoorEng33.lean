/-
  The abstract interpreter, its soundness: ends that are taken together.
-/
import Derived.Test.YtabjigkabgecaaaGreatDoorEng3
import Derived.Test.YtabjigkabgecaaaGreatDoorEng32
namespace Go.Eng
variable {P : Program} {D : Tab}

theorem eqL_ok {f : AV → AV → Bool} (hf : ∀ a b, f a b = true → a = b) : ∀ {x y : List AV}, eqL f x y = true → x = y
  | [], [], _ => rfl
  | [], _ :: _, h => by simp [eqL] at h
  | _ :: _, [], h => by simp [eqL] at h
  | a :: x, b :: y, h => by
    simp only [eqL, Bool.and_eq_true] at h
    rw [hf a b h.1, eqL_ok hf h.2]

theorem eqCap_ok {a b : ACap} (h : eqCap a b = true) : a = b := by
  cases a <;> cases b <;> simp only [eqCap, Bool.and_eq_true, Bool.false_eq_true] at h
  · rw [beq_true h]
  · rw [beq_true h.1, beq_true h.2]

theorem eqAV_ok : ∀ (d : Nat) (a b : AV), eqAV d a b = true → a = b
  | 0, a, b, h => by simp [eqAV] at h
  | d + 1, a, b, h => by
    have ih := eqAV_ok d
    simp only [eqAV] at h
    split at h <;> (try simp only [Bool.and_eq_true, decide_eq_true_eq, beq_iff_eq, Bool.false_eq_true] at h)
    · rw [h]
    · rw [h.1, h.2]
    · rw [bytesEq_data h]
    · rfl
    · rw [beq_true h.1, beq_true h.2]
    · rfl
    · obtain ⟨⟨⟨h1, h2⟩, h3⟩, h4⟩ := h
      rw [beq_true h1, beq_true h2, beq_true h3, eqCap_ok h4]
    · rw [h]
    · rw [beq_true h]
    · rw [h.1, Tm.beq_eq h.2]
    · rfl
    · rw [beq_true h]
    · rfl
    · rfl
    · rw [beq_true h.1, ih _ _ h.2]
    · obtain ⟨⟨h1, h2⟩, h3⟩ := h
      rw [beq_true h1, eqL_ok ih h2, eqL_ok ih h3]
    · rw [beq_true h]
    · rw [eqL_ok ih h]
    · rw [eqL_ok ih h]

theorem eqPT_ok {α : Type} {f : α → α → Bool} (hf : ∀ a b, f a b = true → a = b) : ∀ {x y : PT α}, eqPT f x y = true → x = y
  | .nil, .nil, _ => rfl
  | .nil, .nd _ _ _, h => by simp [eqPT] at h
  | .nd _ _ _, .nil, h => by simp [eqPT] at h
  | .nd l v r, .nd l' v' r', h => by
    simp only [eqPT, Bool.and_eq_true] at h
    obtain ⟨⟨h1, h2⟩, h3⟩ := h
    rw [eqPT_ok hf h2, eqPT_ok hf h3]
    cases v <;> cases v' <;> simp only [Bool.false_eq_true] at h1
    · rfl
    · rw [hf _ _ h1]

theorem eqEs_ok : ∀ {x y : List (AV × AV × Nat)}, eqEs x y = true → x = y
  | [], [], _ => rfl
  | [], _ :: _, h => by simp [eqEs] at h
  | _ :: _, [], h => by simp [eqEs] at h
  | (k, v, b) :: x, (k', v', b') :: y, h => by
    simp only [eqEs, Bool.and_eq_true] at h
    obtain ⟨⟨⟨h1, h2⟩, h3⟩, h4⟩ := h
    rw [beq_true h1, eqAV_ok _ _ _ h2, eqAV_ok _ _ _ h3, eqEs_ok h4]

theorem eqNs_ok : ∀ {x y : List Nat}, eqNs x y = true → x = y
  | [], [], _ => rfl
  | [], _ :: _, h => by simp [eqNs] at h
  | _ :: _, [], h => by simp [eqNs] at h
  | a :: x, b :: y, h => by
    simp only [eqNs, Bool.and_eq_true] at h
    rw [beq_true h.1, eqNs_ok h.2]

theorem eqON_ok {x y : Option Nat} (h : eqON x y = true) : x = y := by
  cases x <;> cases y <;> simp only [eqON, Bool.false_eq_true] at h
  · rfl
  · rw [beq_true h]

theorem eqObj_ok {a b : AObj} (h : eqObj a b = true) : a = b := by
  unfold eqObj at h
  split at h <;> (try simp only [Bool.and_eq_true, Bool.false_eq_true, beq_iff_eq] at h)
  · rw [beq_true h.1, eqPT_ok (eqAV_ok 5) h.2]
  · obtain ⟨⟨⟨h1, h2⟩, h3⟩, h4⟩ := h
    rw [beq_true h1, beq_true h2, beq_true h3, eqPT_ok (eqAV_ok 5) h4]
  · rw [beq_true h.1, eqEs_ok h.2]
  · obtain ⟨⟨⟨h1, h2⟩, h3⟩, h4⟩ := h
    rw [eqON_ok h1, beq_true h2, eqNs_ok h3, beq_true h4]
  · rw [bytesEq_data h.1, beq_true h.2]
  · rw [h]

/-! ### What is kept -/
theorem up1_mem {α : Type} {k : Nat} {x : α} : ∀ {l : List (Nat × α)}, (k, x) ∈ up1 l → ∃ j, k = 2 * j + 1 ∧ (j, x) ∈ l
  | [], h => by simp [up1] at h
  | (i, y) :: r, h => by
    simp only [up1] at h
    rcases List.mem_cons.1 h with h | h
    · simp at h
      obtain ⟨rfl, rfl⟩ := h
      exact ⟨i, rfl, List.mem_cons_self ..⟩
    · obtain ⟨j, h1, h2⟩ := up1_mem h
      exact ⟨j, h1, List.mem_cons_of_mem _ h2⟩
theorem up2_mem {α : Type} {k : Nat} {x : α} : ∀ {l : List (Nat × α)}, (k, x) ∈ up2 l → ∃ j, k = 2 * j + 2 ∧ (j, x) ∈ l
  | [], h => by simp [up2] at h
  | (i, y) :: r, h => by
    simp only [up2] at h
    rcases List.mem_cons.1 h with h | h
    · simp at h
      obtain ⟨rfl, rfl⟩ := h
      exact ⟨i, rfl, List.mem_cons_self ..⟩
    · obtain ⟨j, h1, h2⟩ := up2_mem h
      exact ⟨j, h1, List.mem_cons_of_mem _ h2⟩

theorem toL_mem {α : Type} : ∀ {t : PT α} {k : Nat} {x : α}, (k, x) ∈ t.toL → t.get k = some x
  | .nil, k, x, h => by simp [PT.toL] at h
  | .nd l v r, k, x, h => by
    simp only [PT.toL, List.mem_append] at h
    rcases h with (h | h) | h
    · cases v with
      | none => simp at h
      | some y =>
        simp at h
        obtain ⟨rfl, rfl⟩ := h
        rfl
    · obtain ⟨j, rfl, h2⟩ := up1_mem h
      have := toL_mem h2
      rw [PT.get_succ, if_pos (by omega)]
      have e2 : 2 * j / 2 = j := by omega
      rw [e2]
      exact this
    · obtain ⟨j, rfl, h2⟩ := up2_mem h
      have := toL_mem h2
      rw [show 2 * j + 2 = (2 * j + 1) + 1 from rfl, PT.get_succ, if_neg (by omega)]
      have e2 : (2 * j + 1) / 2 = j := by omega
      rw [e2]
      exact this

theorem kept_get {nx : Nat} {seen : PT Bool} {b : Nat} {o : AObj} : ∀ {l : List (Nat × AObj)} {h : PT AObj}, (kept nx seen l h).get b = some o → h.get b = some o ∨ (b, o) ∈ l
  | [], h, hb => .inl hb
  | (b0, o0) :: r, h, hb => by
    have key : ∀ {h' : PT AObj}, (h' = h ∨ h' = h.set b0 o0) → (kept nx seen r h').get b = some o → h.get b = some o ∨ (b, o) ∈ (b0, o0) :: r := by
      intro h' hh hb
      rcases kept_get hb with h1 | h1
      · rcases hh with rfl | rfl
        · exact .inl h1
        · rw [PT.get_set] at h1
          by_cases e : b = b0
          · subst e
            simp at h1
            subst h1
            exact .inr (List.mem_cons_self ..)
          · rw [if_neg e] at h1
            exact .inl h1
      · exact .inr (List.mem_cons_of_mem _ h1)
    simp only [kept] at hb
    split at hb
    · exact key (.inr rfl) hb
    · split at hb
      · exact key (.inr rfl) hb
      · exact key (.inl rfl) hb

theorem gc_get {nx : Nat} {x : AV × St} {b : Nat} {o : AObj} (h : (gc nx x).get b = some o) : x.2.h.get b = some o := by
  unfold gc at h
  rcases kept_get h with h | h
  · simp at h
  · exact toL_mem h

theorem maxNx_le : ∀ {l : List (AV × St)} {n : Nat}, n ≤ maxNx l n ∧ ∀ v s, (v, s) ∈ l → s.nx ≤ maxNx l n
  | [], n => ⟨Nat.le_refl _, by simp⟩
  | (v0, s0) :: r, n => by
    simp only [maxNx]
    obtain ⟨h1, h2⟩ := maxNx_le (l := r) (n := max n s0.nx)
    refine ⟨by omega, fun v s hm => ?_⟩
    rcases List.mem_cons.1 hm with hm | hm
    · simp at hm
      obtain ⟨rfl, rfl⟩ := hm
      omega
    · exact h2 v s hm
theorem maxNc_le : ∀ {l : List (AV × St)} {n : Nat}, n ≤ maxNc l n ∧ ∀ v s, (v, s) ∈ l → s.nc ≤ maxNc l n
  | [], n => ⟨Nat.le_refl _, by simp⟩
  | (v0, s0) :: r, n => by
    simp only [maxNc]
    obtain ⟨h1, h2⟩ := maxNc_le (l := r) (n := max n s0.nc)
    refine ⟨by omega, fun v s hm => ?_⟩
    rcases List.mem_cons.1 hm with hm | hm
    · simp at hm
      obtain ⟨rfl, rfl⟩ := hm
      omega
    · exact h2 v s hm

theorem alike_ok {v : AV} {h : PT AObj} : ∀ {l : List (AV × St)}, alike v h l = true → ∃ u s, (u, s) ∈ l ∧ eqAV 6 v u = true ∧ eqPT eqObj h s.h = true
  | [], hh => by simp [alike] at hh
  | (u, s) :: r, hh => by
    simp only [alike, Bool.or_eq_true, Bool.and_eq_true] at hh
    rcases hh with hh | hh
    · exact ⟨u, s, List.mem_cons_self .., hh.1, hh.2⟩
    · obtain ⟨u', s', h1, h2⟩ := alike_ok hh
      exact ⟨u', s', List.mem_cons_of_mem _ h1, h2⟩

theorem memF_ok {f : Fm} : ∀ {l : List Fm}, memF l f = true → f ∈ l
  | [], h => by simp [memF] at h
  | x :: r, h => by
    simp only [memF, Bool.or_eq_true] at h
    rcases h with h | h
    · rw [Fm.beq_eq h]; exact List.mem_cons_self ..
    · exact List.mem_cons_of_mem _ (memF_ok h)

theorem meetF_ok {x : List Fm} {f : Fm} : ∀ {l : List Fm}, f ∈ meetF x l → f ∈ l ∧ f ∈ x
  | [], h => by simp [meetF] at h
  | g :: r, h => by
    simp only [meetF] at h
    split at h
    · rename_i hm
      rcases List.mem_cons.1 h with rfl | h
      · exact ⟨List.mem_cons_self .., memF_ok hm⟩
      · exact ⟨List.mem_cons_of_mem _ (meetF_ok h).1, (meetF_ok h).2⟩
    · exact ⟨List.mem_cons_of_mem _ (meetF_ok h).1, (meetF_ok h).2⟩

theorem commonF_ok {nx0 : Nat} {v : AV} {h : PT AObj} {f : Fm} : ∀ {r : List (AV × St)} {fs : List Fm}, f ∈ commonF nx0 v h r fs → f ∈ fs ∧ ∀ y, y ∈ r → eqAV 6 y.1 v = true → eqPT eqObj (gc nx0 y) h = true → f ∈ y.2.fs
  | [], fs, hf => ⟨hf, by simp⟩
  | x :: r, fs, hf => by
    simp only [commonF] at hf
    split at hf
    · obtain ⟨h1, h2⟩ := commonF_ok hf
      obtain ⟨h3, h4⟩ := meetF_ok h1
      refine ⟨h3, fun y hy e1 e2 => ?_⟩
      rcases List.mem_cons.1 hy with rfl | hy
      · exact h4
      · exact h2 y hy e1 e2
    · rename_i hn
      obtain ⟨h1, h2⟩ := commonF_ok hf
      refine ⟨h1, fun y hy e1 e2 => ?_⟩
      rcases List.mem_cons.1 hy with rfl | hy
      · rw [e1, e2] at hn; simp at hn
      · exact h2 y hy e1 e2

/-- What the ends that are kept say holds at the ends to come that are like them. -/
def AllN (nx0 nx nc : Nat) (l acc : List (AV × St)) : Prop :=
  ∀ u s', (u, s') ∈ acc → s'.nx = nx ∧ s'.nc = nc ∧ ∀ y, y ∈ l → eqAV 6 y.1 u = true → eqPT eqObj (gc nx0 y) s'.h = true → ∀ f, f ∈ s'.fs → f ∈ y.2.fs

theorem mergeL_ok {nx0 nx nc : Nat} : ∀ (l acc : List (AV × St)), AllN nx0 nx nc l acc → (∀ x, x ∈ acc → x ∈ mergeL nx0 nx nc l acc) ∧
    (∀ v s, (v, s) ∈ l → ∃ fs, (∀ f, f ∈ fs → f ∈ s.fs) ∧ (v, { h := gc nx0 (v, s), nx := nx, nc := nc, fs := fs }) ∈ mergeL nx0 nx nc l acc)
  | [], acc, _ => ⟨fun x h => h, by simp⟩
  | x :: r, acc, ha => by
    simp only [mergeL]
    split
    · rename_i hal
      have ha' : AllN nx0 nx nc r acc := fun u s' hm => ⟨(ha u s' hm).1, (ha u s' hm).2.1, fun y hy => (ha u s' hm).2.2 y (List.mem_cons_of_mem _ hy)⟩
      obtain ⟨g1, g2⟩ := mergeL_ok (nx0 := nx0) r acc ha'
      refine ⟨g1, fun v s hm => ?_⟩
      rcases List.mem_cons.1 hm with rfl | hm
      · obtain ⟨u, s', h1, h2, h3⟩ := alike_ok hal
        obtain ⟨h4, h5, h6⟩ := ha _ _ h1
        have hf := h6 (v, s) (List.mem_cons_self ..) h2 h3
        have e1 := eqAV_ok _ _ _ h2
        have e2 := eqPT_ok (fun _ _ => eqObj_ok) h3
        simp only at e1 e2
        subst e1
        refine ⟨s'.fs, hf, ?_⟩
        have : s' = { h := gc nx0 (v, s), nx := nx, nc := nc, fs := s'.fs } := by
          cases s'
          simp at e2 h4 h5
          rw [e2, h4, h5]
        rw [← this]
        exact g1 _ h1
      · exact g2 v s hm
    · have ha' : AllN nx0 nx nc r ((x.1, { h := gc nx0 x, nx, nc, fs := commonF nx0 x.1 (gc nx0 x) r x.2.fs }) :: acc) := by
        intro v s hm
        rcases List.mem_cons.1 hm with hm | hm
        · simp at hm
          rw [hm.2, hm.1]
          exact ⟨rfl, rfl, fun y hy e1 e2 f hf => (commonF_ok hf).2 y hy e1 e2⟩
        · obtain ⟨h1, h2, h3⟩ := ha v s hm
          exact ⟨h1, h2, fun y hy => h3 y (List.mem_cons_of_mem _ hy)⟩
      obtain ⟨g1, g2⟩ := mergeL_ok (nx0 := nx0) r _ ha'
      refine ⟨fun y hy => g1 y (List.mem_cons_of_mem _ hy), fun v s hm => ?_⟩
      rcases List.mem_cons.1 hm with rfl | hm
      · exact ⟨_, fun f hf => (commonF_ok hf).1, g1 _ (List.mem_cons_self ..)⟩
      · exact g2 v s hm

theorem Rel.fewer {φ : Phi} {s : St} {w : World} (h : Rel φ s w) {fs : List Fm} (hf : ∀ f, f ∈ fs → f ∈ s.fs) : Rel φ { s with fs } w ∧ Stp φ s w φ { s with fs } w :=
  ⟨⟨h.obj, h.inj, h.fresh, h.freshc, h.glob, h.gnx, fun f hm => h.facts f (hf f hm)⟩,
    ⟨Phi.le.rfl' φ, fun b _ sh hb hr => .inr ⟨b, sh, hb, hr⟩, fun _ _ _ => rfl, Nat.le_refl _, rfl, rfl, rfl, Nat.le_refl _, Nat.le_refl _, fun _ _ => rfl⟩⟩

theorem Rel.raise {φ : Phi} {s : St} {w : World} (h : Rel φ s w) {nx nc : Nat} (h1 : s.nx ≤ nx) (h2 : s.nc ≤ nc) : Rel φ { s with nx, nc } w ∧ Stp φ s w φ { s with nx, nc } w :=
  ⟨⟨h.obj, h.inj, fun b hb => h.fresh b (Nat.le_trans h1 hb), fun k hk => h.freshc k (Nat.le_trans h2 hk), h.glob, Nat.le_trans h.gnx h1, h.facts⟩,
    ⟨Phi.le.rfl' φ, fun b _ sh hb hr => .inr ⟨b, sh, hb, hr⟩, fun _ _ _ => rfl, Nat.le_refl _, rfl, rfl, rfl, h1, h2, fun _ _ => rfl⟩⟩

theorem mergeAll_ok (l : List (AV × St)) (s0 : St) (φ0 : Phi) (w0 : World) (v : AV) (s1 : St) (φ : Phi) (w : World) (u : Value) (hm : (v, s1) ∈ l) (hs : Stp φ0 s0 w0 φ s1 w) (hr : Rel φ s1 w) (hv : VR φ v u) :
    ∃ v' s', (v', s') ∈ mergeAll l s0 ∧ Stp φ0 s0 w0 φ s' w ∧ Rel φ s' w ∧ VR φ v' u := by
  --intro l s0 φ0 w0 v s1 φ w u hm hs hr hv
  unfold mergeAll
  split
  · simp at hm
  · exact ⟨v, s1, hm, hs, hr, hv⟩
  · obtain ⟨_, g2⟩ := mergeL_ok (nx0 := s0.nx) (nx := maxNx l s0.nx) (nc := maxNc l s0.nc) l [] (by intro v s h; simp at h)
    obtain ⟨fs, f1, f2⟩ := g2 v s1 hm
    obtain ⟨a1, a2⟩ := hr.less (h' := gc s0.nx (v, s1)) (fun b o hb => gc_get hb)
    obtain ⟨b1, b2⟩ := a1.raise (nx := maxNx l s0.nx) (nc := maxNc l s0.nc) (maxNx_le.2 v s1 hm) (maxNc_le.2 v s1 hm)
    obtain ⟨c1, c2⟩ := b1.fewer (fs := fs) f1
    exact ⟨v, _, f2, ((hs.trans a2).trans b2).trans c2, c1, hv⟩

theorem merge_ok : MergeOk P merge := ⟨mergeAll_ok, fun g args s outs h => by simp [merge] at h⟩

end Go.Eng
