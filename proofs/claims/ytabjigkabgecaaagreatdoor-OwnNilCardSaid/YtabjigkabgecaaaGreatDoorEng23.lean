/-
  The abstract interpreter, its soundness: one operation as the machine takes it, and regions in the order of the text.
-/
import Derived.Test.YtabjigkabgecaaaGreatDoorEng22
namespace Go.Eng
variable {P : Program} {D : Tab}

theorem TR.put {φ : Phi} {T : PT AV} {a : Act} {n : Nat} {d : Option Tmp} {v : AV} {u : Value} (ht : TR φ T a.tmps) (hn : a.tmps.size = n) (hv : VR φ v u) : TR φ (putA T n d v) (a.put d u).tmps := by
  cases d with
  | none => exact ht
  | some p =>
    intro i x hi
    unfold putA at hi
    simp only at hi
    simp only [Act.put]
    split at hi
    · rename_i hlt
      have hlt := blt_true hlt
      rw [PT.get_set] at hi
      by_cases e : i = p
      · subst e
        simp at hi
        subst hi
        exact ⟨u, by simp [hn, hlt], hv⟩
      · rw [if_neg e] at hi
        obtain ⟨y, h1, h2⟩ := ht i x hi
        exact ⟨y, by rw [Array.getElem?_setIfInBounds_ne (Ne.symm e)]; exact h1, h2⟩
    · rename_i hlt
      obtain ⟨y, h1, h2⟩ := ht i x hi
      have hge : ¬ p < n := by
        intro hc
        have : Nat.blt p n = true := by simpa [Nat.blt, Nat.ble_eq] using (show p + 1 ≤ n from hc)
        rw [this] at hlt
        simp at hlt
      have hil := (Array.getElem?_eq_some_iff.1 h1).1
      rw [hn] at hil
      have : i ≠ p := by
        rintro rfl
        exact hge hil
      exact ⟨y, by rw [Array.getElem?_setIfInBounds_ne (Ne.symm this)]; exact h1, h2⟩

theorem Act.size_put (a : Act) (d : Option Tmp) (u : Value) : (a.put d u).tmps.size = a.tmps.size := by
  cases d <;> simp [Act.put]
theorem Act.defers_put (a : Act) (d : Option Tmp) (u : Value) : (a.put d u).defers = a.defers := by
  cases d <;> simp [Act.put]

theorem VR.not_bool {φ : Phi} {v : AV} {b : Bool} (h : VR φ v (.bool b)) : v = .bool b := by
  cases h with
  | bool => rfl
  | sym _ hp => simp [plainV] at hp

theorem guardOk_ok {φ : Phi} {T : PT AV} {tmps : Array Value} {ops : Array Oper} {o : Oper} {g : Bool} (ht : TR φ T tmps) (h : guardOk T ops o = some g) : Region.wanted o (yielded ops tmps) = g := by
  unfold guardOk at h
  unfold Region.wanted
  split at h
  · rename_i hg
    simp at h
    simp [hg, h]
  · rename_i j want hg
    split at h
    · rename_i x hx
      split at h
      · rename_i d hd
        split at h
        · rename_i b hb
          simp at h
          obtain ⟨u, h1, h2⟩ := ht d _ hb
          cases h2
          simp [hg, yielded, hx, hd, h1, ← h]
        · rename_i v hnb hv
          simp at h
          obtain ⟨u, h1, h2⟩ := ht d _ hv
          subst h
          have : ∀ b, u ≠ .bool b := by
            rintro b rfl
            have := h2.not_bool
            subst this
            exact hnb _ rfl
          simp only [hg, yielded, hx, Option.bind_some, hd, h1]
          split
          · rename_i hh; simp at hh; exact absurd hh (this _)
          · rfl
        · simp at h
      · simp at h
    · simp at h

theorem opA_nodefer {T : PT AV} {s : St} {op : Op} {d : Do} (h : opA D T s op = some d) : ∀ c, op ≠ .defer c := by
  rintro c rfl
  simp [opA] at h

theorem oper_ok (hD : TabOk P D) {rec : Rec} {mg : Merge} (hrec : RecOk P rec) (hmg : MergeOk P mg) {T : PT AV} {s : St} {o : Oper} {l : List (AV × St)} (h : oper D rec mg T s o.op = some l) {φ : Phi} {a : Act} {w : World} (b : Frame) (k : List Item) (cs : List Frame)
    {ops : Array Oper} {i : Nat} {rest : List Nat} (ho : ops[i]? = some o) (hw : Region.wanted o (yielded ops a.tmps) = true) (ht : TR φ T a.tmps) (hr : Rel φ s w) :
    ∃ v s', (v, s') ∈ l ∧ ∃ φ' u w', Stp φ s w φ' s' w' ∧ Rel φ' s' w' ∧ VR φ' v u ∧ Steps P (lone (b.atR a (.inRegion ops (i :: rest) :: k)) cs w) (lone (b.atR (a.put o.dst u) (.inRegion ops rest :: k)) cs w') := by
  have hg := stepGR_op (P := P) (b := b) (k := k) (cs := cs) (w := w) (rest := rest) ho hw
  have hfin : ∀ v, (b.atR a (.inRegion ops (i :: rest) :: k)).finish v = b.atR (a.put o.dst v) (.inRegion ops rest :: k) := by
    intro v; rw [Frame.finish_atR, ho]; rfl
  unfold oper at h
  split at h
  · simp at h
  · rename_i v s' hd
    have hok := opA_ok hD hr (EvR.of_act ht) hd
    rw [Oper.semAt_eq _ _ _ (opA_nodefer hd)] at hg
    simp only [Option.some.injEq] at h
    subst h
    obtain ⟨φ', w', u, h1, h2, h3, h4⟩ := hok
    refine ⟨v, s', by simp, φ', u, w', h2, h3, h4, .one (step_lone_go ?_)⟩
    rw [hg, ← hfin]
    rcases h1 with h1 | ⟨h1, rfl⟩ <;> simp [stepG.apply, h1]
  · rename_i g args hd
    have hok := opA_ok hD hr (EvR.of_act ht) hd
    rw [Oper.semAt_eq _ _ _ (opA_nodefer hd)] at hg
    obtain ⟨vals, h1, h2⟩ := hok
    obtain ⟨v, s', m, φ', u, w', fr, q1, q2, q3, q4, q5, q6⟩ := callF_ok hD hrec hmg g args s l h φ vals w (b.atR a (.inRegion ops (i :: rest) :: k) :: cs) hr h1
    refine ⟨v, s', m, φ', u, w', q1, q2, q3, ?_⟩
    have henter : step P (lone (b.atR a (.inRegion ops (i :: rest) :: k)) cs w) =
        .next (lone (Frame.enter P g vals.toArray .normal) (b.atR a (.inRegion ops (i :: rest) :: k) :: cs) w) :=
      step_lone_go (by rw [hg]; simp [stepG.apply, h2, Frame.atR])
    refine .head henter (q4.trans (.one ?_))
    rw [← hfin]
    exact step_leave_returned q6
  · rename_i l' args hd
    have hok := opA_ok hD hr (EvR.of_act ht) hd
    rw [Oper.semAt_eq _ _ _ (opA_nodefer hd)] at hg
    obtain ⟨vals, x, sh, h1, h2, h3⟩ := hok
    obtain ⟨v, s', m, φ', u, w', fn, tmps, assign, body, q1, q2, q3, q4, q5⟩ := roundF_ok hrec l' args s l h φ vals w (b.atR a (.inRegion ops (i :: rest) :: k)) cs x sh hr h1 h2
    refine ⟨v, s', m, φ', u, w', q1, q2, q3, ?_⟩
    have henter : step P (lone (b.atR a (.inRegion ops (i :: rest) :: k)) cs w) =
        .next (lone (Frame.round x fn tmps assign body .normal) (b.atR a (.inRegion ops (i :: rest) :: k) :: cs) w) :=
      step_lone_go (by rw [hg]; simp [stepG.apply, h3, q4, Frame.atR])
    refine .head henter ?_
    rw [← hfin]
    exact q5
  · rename_i it str hd
    have hok := opA_ok hD hr (EvR.of_act ht) hd
    rw [Oper.semAt_eq _ _ _ (opA_nodefer hd)] at hg
    obtain ⟨iv, ty, h1, h2⟩ := hok
    obtain ⟨v, s', m, u, w', q1, q2, q3, q4⟩ := nextA_ok (P := P) hr h1 h ty
    refine ⟨v, s', m, φ, u, w', q3, q4, q2, .one (step_lone_go ?_)⟩
    rw [hg, ← hfin]
    simp [stepG.apply, h2, q1]

theorem bindL_mem {α β : Type} {f : α → Option (List β)} : ∀ {l : List α} {m : List β}, bindL l f = some m → ∀ x, x ∈ l → ∃ r, f x = some r ∧ ∀ y, y ∈ r → y ∈ m
  | [], m, h, x, hx => by simp at hx
  | y :: r, m, h, x, hx => by
    simp only [bindL] at h
    split at h
    · simp at h
    · rename_i l' hl'
      split at h
      · simp at h
      · rename_i m' hm'
        simp at h
        subst h
        rcases List.mem_cons.1 hx with rfl | hx
        · exact ⟨l', hl', fun z hz => List.mem_append_left _ hz⟩
        · obtain ⟨r', g1, g2⟩ := bindL_mem hm' x hx
          exact ⟨r', g1, fun z hz => List.mem_append_right _ (g2 z hz)⟩

theorem CfR.put {φ : Phi} {cf : Cf} {a : Act} {w : World} (h : CfR φ cf a w) {d : Option Tmp} {v : AV} {u : Value} (hv : VR φ v u) : CfR φ { cf with t := putA cf.t cf.n d v } (a.put d u) w :=
  ⟨h.t.put h.n hv, by rw [Act.size_put]; exact h.n, by rw [Act.defers_put]; exact h.ds, h.s⟩

theorem CfR.step {φ φ' : Phi} {cf : Cf} {a : Act} {w w' : World} {s' : St} (h : CfR φ cf a w) (hs : Stp φ cf.s w φ' s' w') (hr : Rel φ' s' w') : CfR φ' { cf with s := s' } a w' :=
  ⟨h.t.mono hs.ext, h.n, h.ds.mono hs.ext, hr⟩

theorem seqOps_ok (hD : TabOk P D) {rec : Rec} {mg : Merge} (hrec : RecOk P rec) (hmg : MergeOk P mg) {ops : Array Oper} (b : Frame) (k : List Item) (cs : List Frame) : ∀ (l : List Oper) (i : Nat) (cf : Cf) (outs : List Cf) (φ : Phi) (a : Act) (w : World), ops.toList.drop i = l →
    seqOps D rec mg ops l cf = some outs → CfR φ cf a w →
    ∃ cf', cf' ∈ outs ∧ ∃ φ' a' w', Stp φ cf.s w φ' cf'.s w' ∧ CfR φ' cf' a' w' ∧ Steps P (lone (b.atR a (.inRegion ops (List.range' i l.length) :: k)) cs w) (lone (b.atR a' k) cs w')
  | [], i, cf, outs, φ, a, w, _, h, hc => by
    simp [seqOps] at h
    subst h
    exact ⟨cf, by simp, φ, a, w, Stp.refl _ _ _, hc, .one stepR_region_end⟩
  | o :: r, i, cf, outs, φ, a, w, hl, h, hc => by
    have ho : ops[i]? = some o := by
      have h1 : (ops.toList.drop i)[0]? = some o := by rw [hl]; rfl
      simpa using h1
    have hr : ops.toList.drop (i + 1) = r := by
      have : ops.toList.drop (i + 1) = (ops.toList.drop i).drop 1 := by simp
      rw [this, hl]; rfl
    simp only [List.length_cons, List.range'_succ]
    simp only [seqOps] at h
    split at h
    · simp at h
    · rename_i hg
      have hw := guardOk_ok hc.t hg
      have hs := stepR_op_skip (P := P) (b := b) (a := a) (k := k) (cs := cs) (w := w) (ops := ops) (i := i) (rest := List.range' (i + 1) r.length) (by simp [ho, hw])
      simp only [ho, Option.bind_some] at hs
      obtain ⟨cf', m, φ', a', w', g1, g2, g3⟩ := seqOps_ok hD hrec hmg b k cs r (i + 1) _ outs φ _ w hr h (hc.put (d := o.dst) (VR.undef (φ := φ)))
      exact ⟨cf', m, φ', a', w', g1, g2, .head hs g3⟩
    · rename_i hg
      have hw := guardOk_ok hc.t hg
      split at h
      · simp at h
      · rename_i v s hop
        obtain ⟨v', s', m, φ', u, w', q1, q2, q3, q4⟩ := oper_ok hD hrec hmg hop b k cs (rest := List.range' (i + 1) r.length) ho hw hc.t hc.s
        simp only [List.mem_singleton, Prod.mk.injEq] at m
        obtain ⟨rfl, rfl⟩ := m
        obtain ⟨cf', m, φ2, a', w2, g1, g2, g3⟩ := seqOps_ok hD hrec hmg b k cs r (i + 1) _ outs φ' _ w' hr h ((hc.step q1 q2).put (d := o.dst) q3)
        exact ⟨cf', m, φ2, a', w2, q1.trans g1, g2, q4.trans g3⟩
      · rename_i l' _ hop
        obtain ⟨v', s', m, φ', u, w', q1, q2, q3, q4⟩ := oper_ok hD hrec hmg hop b k cs (rest := List.range' (i + 1) r.length) ho hw hc.t hc.s
        obtain ⟨r', h1, h2⟩ := bindL_mem h _ m
        obtain ⟨cf', m, φ2, a', w2, g1, g2, g3⟩ := seqOps_ok hD hrec hmg b k cs r (i + 1) _ r' φ' _ w' hr h1 ((hc.step q1 q2).put (d := o.dst) q3)
        exact ⟨cf', h2 _ m, φ2, a', w2, q1.trans g1, g2, q4.trans g3⟩

end Go.Eng
