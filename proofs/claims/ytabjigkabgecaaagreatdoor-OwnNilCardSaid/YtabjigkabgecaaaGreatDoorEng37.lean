/-
  The abstract interpreter: calls that are known, each by the blocks that it looks at.
-/
import Derived.Test.YtabjigkabgecaaaGreatDoorEng36
namespace Go.Eng
noncomputable section
variable {P : Program} {D : Tab}

/-- A heap by its blocks. -/
def hp : List (Nat × AObj) → PT AObj
  | [] => .nil
  | (b, o) :: r => (hp r).set b o
def expand : List (Nat × AV) → List AV
  | [] => []
  | (n, x) :: r => List.replicate n x ++ expand r
def rl (l : List (Nat × AV)) : PT AV := PT.setAll .nil 0 (expand l)
def bs (l : List Nat) : ByteArray := ⟨(l.map UInt8.ofNat).toArray⟩

def has (h : PT AObj) : List (Nat × AObj) → Bool
  | [] => true
  | (b, o) :: r => match h.get b with | some x => (match eqObj x o with | true => has h r | false => false) | none => false

def dels (h : PT AObj) : List (Nat × AObj) → PT AObj
  | [] => h
  | (b, _) :: r => (dels h r).del b
def adds (h : PT AObj) : List (Nat × AObj) → PT AObj
  | [] => h
  | (b, o) :: r => (adds h r).set b o

/-- What is known of a call: the blocks that it looks at; what it hands back, and the blocks then. -/
structure Known where
  g : FuncId
  args : List AV
  dom : List (Nat × AObj)
  nx : Nat
  nc : Nat
  outs : List (AV × List (Nat × AObj) × Nat × Nat)

def Known.st (k : Known) : St := { h := hp k.dom, nx := k.nx, nc := k.nc, fs := [] }
def Known.ends (k : Known) : List (AV × St) := k.outs.map fun x => (x.1, { h := hp x.2.1, nx := x.2.2.1, nc := x.2.2.2, fs := [] })
def Known.over (k : Known) (s : St) : List (AV × St) := k.outs.map fun x => (x.1, { h := adds (dels s.h k.dom) x.2.1, nx := x.2.2.1, nc := x.2.2.2, fs := s.fs })
def Known.fits (k : Known) (args : List AV) (s : St) : Bool :=
  match Nat.beq s.nx k.nx with
  | false => false
  | true =>
    match Nat.beq s.nc k.nc with
    | false => false
    | true =>
      match eqL (eqAV 6) args k.args with
      | false => false
      | true => has s.h k.dom

def memoOf : List Known → FuncId → List AV → St → Option (List (AV × St))
  | [], _, _, _ => none
  | k :: r, g, args, s =>
    match Nat.beq g k.g with
    | false => memoOf r g args s
    | true => match k.fits args s with | true => some (k.over s) | false => memoOf r g args s

def mergeK (l : List Known) : Merge := { mg := mergeAll, memo := memoOf l }

/-! ### It is sound -/
theorem hp_get : ∀ {l : List (Nat × AObj)} {b : Nat} {o : AObj}, (hp l).get b = some o → (b, o) ∈ l
  | [], b, o, h => by simp [hp] at h
  | (c, x) :: r, b, o, h => by
    simp only [hp, PT.get_set] at h
    split at h
    · rename_i e
      subst e
      simp at h
      subst h
      exact List.mem_cons_self ..
    · exact List.mem_cons_of_mem _ (hp_get h)

theorem hp_some : ∀ {l : List (Nat × AObj)} {b : Nat} {o : AObj}, (b, o) ∈ l → ((hp l).get b).isSome = true
  | [], b, o, h => by simp at h
  | (c, x) :: r, b, o, h => by
    simp only [hp, PT.get_set]
    split
    · rfl
    · rename_i e
      rcases List.mem_cons.1 h with h | h
      · simp at h; exact absurd h.1 e
      · exact hp_some h

theorem has_ok {h : PT AObj} : ∀ {l : List (Nat × AObj)}, has h l = true → ∀ b o, (b, o) ∈ l → h.get b = some o
  | [], _, b, o, hm => by simp at hm
  | (c, x) :: r, hh, b, o, hm => by
    simp only [has] at hh
    split at hh
    · rename_i y hy
      split at hh
      · rename_i he
        have := eqObj_ok he
        subst this
        rcases List.mem_cons.1 hm with hm | hm
        · simp at hm
          obtain ⟨rfl, rfl⟩ := hm
          exact hy
        · exact has_ok hh b o hm
      · simp at hh
    · simp at hh

theorem dels_get {h : PT AObj} : ∀ {l : List (Nat × AObj)} {b : Nat} {o : AObj}, (dels h l).get b = some o → h.get b = some o ∧ ∀ x, (b, x) ∉ l
  | [], b, o, hb => ⟨hb, by simp⟩
  | (c, x) :: r, b, o, hb => by
    simp only [dels, PT.get_del] at hb
    split at hb
    · simp at hb
    · rename_i e
      obtain ⟨h1, h2⟩ := dels_get hb
      refine ⟨h1, fun y hy => ?_⟩
      rcases List.mem_cons.1 hy with hy | hy
      · simp at hy; exact e hy.1
      · exact h2 y hy

theorem adds_get {h : PT AObj} : ∀ {l : List (Nat × AObj)} {b : Nat} {o : AObj}, (adds h l).get b = some o → (hp l).get b = some o ∨ ((hp l).get b = none ∧ h.get b = some o)
  | [], b, o, hb => .inr ⟨rfl, hb⟩
  | (c, x) :: r, b, o, hb => by
    simp only [adds, PT.get_set] at hb
    simp only [hp, PT.get_set]
    by_cases e : b = c
    · simp only [if_pos e] at hb ⊢
      exact .inl hb
    · simp only [if_neg e] at hb ⊢
      exact adds_get hb

/-- A call looks at no more than what it is shown. -/
theorem frame_ok {k : Known} (hk : CallAt P k.g k.args k.st k.ends) {s : St} (hf : k.fits k.args s = true) : CallAt P k.g k.args s (k.over s) := by
  unfold Known.fits at hf
  split at hf
  · simp at hf
  · rename_i hnx
    split at hf
    · simp at hf
    · rename_i hnc
      split at hf
      · simp at hf
      · have hnx := beq_true hnx
        have hnc := beq_true hnc
        have hh := has_ok hf
        intro φ vals w cs hr hv
        have hsub : ∀ b o, (hp k.dom).get b = some o → s.h.get b = some o := fun b o h => hh b o (hp_get h)
        have hr0 : Rel φ k.st w := by
          have := ((hr.less hsub).1.fewer (fs := []) (by simp)).1
          unfold Known.st
          rw [← hnx, ← hnc]
          exact this
        obtain ⟨v, s', hm, φ', u, w', fr, q1, q2, q3, q4, q5, q6⟩ := hk φ vals w cs hr0 hv
        obtain ⟨x, hx, he⟩ := List.mem_map.1 hm
        simp only [Prod.mk.injEq] at he
        obtain ⟨rfl, rfl⟩ := he
        refine ⟨x.1, _, List.mem_map.2 ⟨x, hx, rfl⟩, φ', u, w', fr, ?_, ?_, q3, q4, q5, q6⟩
        all_goals
          have hsplit : ∀ b o, (adds (dels s.h k.dom) x.2.1).get b = some o → (hp x.2.1).get b = some o ∨ (s.h.get b = some o ∧ (hp k.dom).get b = none) := by
            intro b o hb
            rcases adds_get hb with h | ⟨_, h⟩
            · exact .inl h
            · obtain ⟨h1, h2⟩ := dels_get h
              refine .inr ⟨h1, ?_⟩
              cases hx : (hp k.dom).get b with
              | none => rfl
              | some y => exact absurd (hp_get hx) (h2 y)
          have hout : ∀ b o, s.h.get b = some o → (hp k.dom).get b = none → ∃ r sh ro, φ.blk b = some (r, sh) ∧ w.heap[r]? = some ro ∧ OR φ sh o ro ∧ w'.heap[r]? = some ro ∧ ∀ c sh', ((hp k.dom).get c).isSome = true → φ.blk c ≠ some (r, sh') := by
            intro b o hb hn
            obtain ⟨r, sh, ro, h1, h2, h3⟩ := hr.obj b o hb
            have hne : ∀ c sh', ((hp k.dom).get c).isSome = true → φ.blk c ≠ some (r, sh') := by
              intro c sh' hc hcr
              obtain ⟨y, hy⟩ := Option.isSome_iff_exists.1 hc
              have := hr.inj b c r sh sh' (by simp [hb]) (by simp [hsub c y hy]) h1 hcr
              subst this
              rw [hn] at hy
              simp at hy
            refine ⟨r, sh, ro, h1, h2, h3, ?_, hne⟩
            rw [q1.keep r (Array.getElem?_eq_some_iff.1 h2).1 hne]
            exact h2
        · refine ⟨q1.ext, fun b r sh hb hbr => ?_, fun r hrl hn => ?_, q1.size, q1.os, q1.out, q1.tape, ?_, ?_, ?_⟩
          · obtain ⟨o, ho⟩ := Option.isSome_iff_exists.1 hb
            rcases hsplit b o ho with h | ⟨h, hn⟩
            · rcases q1.own b r sh (by simp [h]) hbr with h1 | ⟨b0, sh0, h1, h2⟩
              · exact .inl h1
              · obtain ⟨y, hy⟩ := Option.isSome_iff_exists.1 h1
                exact .inr ⟨b0, sh0, by simp [hsub b0 y hy], h2⟩
            · obtain ⟨r', sh', ro, h1, _⟩ := hout b o h hn
              rw [q1.ext.blk _ _ h1] at hbr
              simp at hbr
              obtain ⟨rfl, rfl⟩ := hbr
              exact .inr ⟨b, sh', by simp [h], h1⟩
          · exact q1.keep r hrl fun b sh hb => by
              obtain ⟨y, hy⟩ := Option.isSome_iff_exists.1 hb
              exact hn b sh (by simp [hsub b y hy])
          · rw [hnx]; exact q1.nx
          · rw [hnc]; exact q1.nc
          · rw [hnx]; exact q1.old
        · refine ⟨fun b o hb => ?_, fun b b' r sh sh' hb hb' h1 h2 => ?_, q2.fresh, q2.freshc, q2.glob, q2.gnx, by rw [q1.ext.env]; exact hr.facts⟩
          · rcases hsplit b o hb with h | ⟨h, hn⟩
            · exact q2.obj b o h
            · obtain ⟨r, sh, ro, h1, h2, h3, h4, _⟩ := hout b o h hn
              exact ⟨r, sh, ro, q1.ext.blk _ _ h1, h4, h3.mono q1.ext⟩
          · obtain ⟨o, ho⟩ := Option.isSome_iff_exists.1 hb
            obtain ⟨o', ho'⟩ := Option.isSome_iff_exists.1 hb'
            have cross : ∀ b b' o o' r sh sh', (hp x.2.1).get b = some o → s.h.get b' = some o' → (hp k.dom).get b' = none → φ'.blk b = some (r, sh) → φ'.blk b' = some (r, sh') → False := by
              intro b b' o o' r sh sh' h h' hn' h1 h2
              obtain ⟨r', s2, ro, g1, g2, _, _, g5⟩ := hout b' o' h' hn'
              rw [q1.ext.blk _ _ g1] at h2
              simp at h2
              obtain ⟨rfl, rfl⟩ := h2
              rcases q1.own b r' sh (by simp [h]) h1 with e | ⟨b0, sh0, e1, e2⟩
              · have := (Array.getElem?_eq_some_iff.1 g2).1
                omega
              · exact g5 b0 sh0 e1 e2
            rcases hsplit b o ho with h | ⟨h, hn⟩
            · rcases hsplit b' o' ho' with h' | ⟨h', hn'⟩
              · exact q2.inj b b' r sh sh' (by simp [h]) (by simp [h']) h1 h2
              · exact (cross b b' o o' r sh sh' h h' hn' h1 h2).elim
            · rcases hsplit b' o' ho' with h' | ⟨h', hn'⟩
              · exact (cross b' b o' o r sh' sh h' h hn h2 h1).elim
              · obtain ⟨r1, s1, ro, g1, _⟩ := hout b o h hn
                obtain ⟨r2, s2, ro', g2, _⟩ := hout b' o' h' hn'
                rw [q1.ext.blk _ _ g1] at h1
                rw [q1.ext.blk _ _ g2] at h2
                simp at h1 h2
                obtain ⟨rfl, rfl⟩ := h1
                obtain ⟨rfl, rfl⟩ := h2
                exact hr.inj b b' _ _ _ (by simp [h]) (by simp [h']) g1 g2

def KnownOk (P : Program) (k : Known) : Prop := CallAt P k.g k.args k.st k.ends

theorem memoOf_ok : ∀ {l : List Known}, (∀ k, k ∈ l → KnownOk P k) → ∀ g args s outs, memoOf l g args s = some outs → CallAt P g args s outs
  | [], _, g, args, s, outs, h => by simp [memoOf] at h
  | k :: r, hk, g, args, s, outs, h => by
    simp only [memoOf] at h
    split at h
    · exact memoOf_ok (fun k' h' => hk k' (List.mem_cons_of_mem _ h')) g args s outs h
    · rename_i hg
      split at h
      · rename_i hf
        simp only [Option.some.injEq] at h
        subst h
        rw [beq_true hg]
        have : args = k.args := by
          have hf' := hf
          unfold Known.fits at hf'
          split at hf'
          · simp at hf'
          · split at hf'
            · simp at hf'
            · split at hf'
              · simp at hf'
              · rename_i he; exact eqL_ok (eqAV_ok 6) he
        subst this
        exact frame_ok (hk k (List.mem_cons_self ..)) hf
      · exact memoOf_ok (fun k' h' => hk k' (List.mem_cons_of_mem _ h')) g args s outs h

theorem mergeK_ok {l : List Known} (h : ∀ k, k ∈ l → KnownOk P k) : MergeOk P (mergeK l) := ⟨mergeAll_ok, memoOf_ok h⟩

/-! ### A call becomes known by being run -/
/-- Are the ends as they are said to be? -/
def sameEnds : List (AV × St) → List (AV × List (Nat × AObj) × Nat × Nat) → Bool
  | [], _ => true
  | (v, s) :: r, l => (l.any fun x => eqAV 6 v x.1 && Nat.beq s.nx x.2.2.1 && Nat.beq s.nc x.2.2.2 && has s.h x.2.1) && sameEnds r l

def Known.check (k : Known) (D : Tab) (mg : Merge) (fuel : Nat) : Bool :=
  match callB D (goF D mg fuel) mg k.g k.args k.st with
  | some l => sameEnds l k.outs
  | none => false

theorem sameEnds_ok : ∀ {l : List (AV × St)} {l' : List (AV × List (Nat × AObj) × Nat × Nat)}, sameEnds l l' = true → ∀ v s, (v, s) ∈ l → ∃ x, x ∈ l' ∧ x.1 = v ∧ s.nx = x.2.2.1 ∧ s.nc = x.2.2.2 ∧ has s.h x.2.1 = true
  | [], _, _, v, s, hm => by simp at hm
  | (v0, s0) :: r, l', h, v, s, hm => by
    simp only [sameEnds, Bool.and_eq_true, List.any_eq_true] at h
    rcases List.mem_cons.1 hm with hm | hm
    · simp at hm
      obtain ⟨rfl, rfl⟩ := hm
      obtain ⟨x, h1, ⟨⟨h2, h3⟩, h4⟩, h5⟩ := h.1
      exact ⟨x, h1, (eqAV_ok _ _ _ h2).symm, beq_true h3, beq_true h4, h5⟩
    · exact sameEnds_ok h.2 v s hm

theorem known_ok (hD : TabOk P D) (hmix : P.follows .mixedOrders = true) {mg : Merge} (hmg : MergeOk P mg) {k : Known} {fuel : Nat} (h : k.check D mg fuel = true) : KnownOk P k := by
  unfold Known.check at h
  split at h
  · rename_i l hl
    rw [goF_eq] at hl
    intro φ vals w cs hr hv
    obtain ⟨v, s', hm, φ', u, w', fr, q1, q2, q3, q4, q5, q6⟩ := callB_ok hD (run_ok hD hmix hmg fuel) hmg _ _ _ l hl φ vals w cs hr hv
    obtain ⟨x, h1, rfl, h3, h4, h5⟩ := sameEnds_ok h v s' hm
    have hl0 := q2.less (h' := hp x.2.1) (fun b o hb => has_ok h5 b o (hp_get hb))
    have hl1 := hl0.1.fewer (fs := []) (by simp)
    have hl : _ ∧ _ := ⟨hl1.1, hl0.2.trans hl1.2⟩
    have e : ({ s' with h := hp x.2.1, fs := [] } : St) = { h := hp x.2.1, nx := x.2.2.1, nc := x.2.2.2, fs := [] } := by rw [← h3, ← h4]
    rw [e] at hl
    exact ⟨x.1, _, List.mem_map.2 ⟨x, h1, rfl⟩, φ', u, w', fr, q1.trans hl.2, hl.1, q3, q4, q5, q6⟩
  · simp at h

def closedK (D : Tab) (l : List Known) (fuel : Nat) (g : FuncId) : Bool :=
  match callF D (goF D (mergeK l) fuel) (mergeK l) g [] st0 with
  | some l => allTrue l
  | none => false

theorem closedK_ok (hD : TabOk P D) (hmix : P.follows .mixedOrders = true) {l : List Known} (hl : ∀ k, k ∈ l → KnownOk P k) {fuel : Nat} {g : FuncId} (h : closedK D l fuel g = true) (w : World) : Calls P g #[] w fun e w' => e = .returned (.bool true) ∧ Kept w w' := by
  unfold closedK at h
  split at h
  · rename_i l' hl'
    rw [goF_eq] at hl'
    intro cs
    obtain ⟨v, s', m, φ', u, w', fr, q1, q2, q3, q4, q5, q6⟩ := callF_ok hD (run_ok hD hmix (mergeK_ok hl) fuel) (mergeK_ok hl) g [] st0 l' hl' phi0 [] w cs (rel0 w) .nil
    have := allTrue_mem h v s' m
    subst this
    cases q3
    exact ⟨.returned (.bool true), w', fr, ⟨rfl, q1.os, q1.out, q1.size, fun r hr => q1.keep r hr fun b sh hb => by simp [st0] at hb, q1.tape⟩, q4, q5, q6⟩
  · simp at h

/-! ### Calls whose arguments are whatever they are -/
def phiS (vs : List Value) (env : Nat → Int) : Phi := { blk := fun g => if g < GB then some (g, 0) else none, cap := fun _ => none, sym := fun i => vs[i]?, env := env }

theorem relS (vs : List Value) (env : Nat → Int) (w : World) : Rel (phiS vs env) st0 w where
  obj := fun b o h => by simp [st0] at h
  inj := fun b b' r sh sh' h => by simp [st0] at h
  fresh := fun b h => by
    have : ¬ b < GB := by simp [st0] at h; omega
    simp [phiS, this]
  freshc := fun _ _ => rfl
  glob := fun g h => by simp [phiS, h]
  gnx := Nat.le_refl _
  facts := fun f h => by simp [st0] at h

/-- n cells, whatever they hold. -/
def symsFrom : Nat → Nat → List AV
  | _, 0 => []
  | i, n + 1 => .sym i :: symsFrom (i + 1) n

theorem symsFrom_ok {vs : List Value} {env : Nat → Int} : ∀ (us : List Value) (i : Nat), (∀ j v, us[j]? = some v → vs[i + j]? = some v ∧ plainV v = true) → VRs (phiS vs env) (symsFrom i us.length) us
  | [], _, _ => .nil
  | u :: us, i, h => .cons (.sym (h 0 u rfl).1 (h 0 u rfl).2) (symsFrom_ok us (i + 1) fun j v hj => by
      have := h (j + 1) v (by simpa using hj)
      rwa [show i + (j + 1) = i + 1 + j by omega] at this)

def openK (D : Tab) (l : List Known) (fuel : Nat) (g : FuncId) (args : List AV) : Bool :=
  match callF D (goF D (mergeK l) fuel) (mergeK l) g args st0 with
  | some l => allTrue l
  | none => false

theorem openK_ok (hD : TabOk P D) (hmix : P.follows .mixedOrders = true) {l : List Known} (hl : ∀ k, k ∈ l → KnownOk P k) {fuel : Nat} {g : FuncId} {args : List AV} (h : openK D l fuel g args = true) (vs vals : List Value) (env : Nat → Int) (hv : VRs (phiS vs env) args vals) (w : World) :
    Calls P g vals.toArray w fun e w' => e = .returned (.bool true) ∧ Kept w w' := by
  unfold openK at h
  split at h
  · rename_i l' hl'
    rw [goF_eq] at hl'
    intro cs
    obtain ⟨v, s', m, φ', u, w', fr, q1, q2, q3, q4, q5, q6⟩ := callF_ok hD (run_ok hD hmix (mergeK_ok hl) fuel) (mergeK_ok hl) g args st0 l' hl' (phiS vs env) vals w cs (relS vs env w) hv
    have := allTrue_mem h v s' m
    subst this
    cases q3
    exact ⟨.returned (.bool true), w', fr, ⟨rfl, q1.os, q1.out, q1.size, fun r hr => q1.keep r hr fun b sh hb => by simp [st0] at hb, q1.tape⟩, q4, q5, q6⟩
  · simp at h

end
end Go.Eng
