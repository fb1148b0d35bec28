/-
  The abstract interpreter, its soundness: operations, calls, rounds, regions that are walked in the order of the text.
-/
import Derived.Test.YtabjigkabgecaaaGreatDoorEng21
import Derived.RangeFuncIn
namespace Go.Eng
variable {P : Program} {D : Tab}

def DsR (φ : Phi) : List Nat → List Deferred → Prop
  | [], [] => True
  | i :: r, d :: q => (∃ x sh, φ.blk i = some (x, sh) ∧ d = { target := .collected x, args := #[] }) ∧ DsR φ r q
  | _, _ => False

theorem DsR.mono {p q : Phi} (h : p.le q) : ∀ {l : List Nat} {d : List Deferred}, DsR p l d → DsR q l d
  | [], [], _ => trivial
  | _ :: _, _ :: _, ⟨⟨x, sh, h1, h2⟩, h3⟩ => ⟨⟨x, sh, h.blk _ _ h1, h2⟩, h3.mono h⟩

structure CfR (φ : Phi) (cf : Cf) (a : Act) (w : World) : Prop where
  t : TR φ cf.t a.tmps
  n : a.tmps.size = cf.n
  ds : DsR φ cf.ds a.defers
  s : Rel φ cf.s w

def RndR (φ : Phi) : Option Nat → Option Nat → Prop
  | none, none => True
  | some l, some r => ∃ sh, φ.blk l = some (r, sh)
  | _, _ => False

theorem RndR.mono {p q : Phi} (h : p.le q) {a b : Option Nat} (hr : RndR p a b) : RndR q a b := by
  cases a <;> cases b <;> simp only [RndR] at hr ⊢
  obtain ⟨sh, hr⟩ := hr
  exact ⟨sh, h.blk _ _ hr⟩

/-- How a piece of code is left. -/
def ArrR (P : Program) (m : Machine) (b : Frame) (k : List Item) (cs : List Frame) : Ex → Act → World → Prop
  | .normal, a, w => Steps P m (lone (b.atR a k) cs w)
  | .exit id, a, w => ∃ k1, exitTo id k1 = exitTo id k ∧ Steps P m (lone (b.atR a (.code (.exit id) :: k1)) cs w)
  | .ret, a, w => ∃ k1, Steps P m (lone (b.atR a (.code .ret :: k1)) cs w)

theorem ArrR.of_steps {m m1 : Machine} {b : Frame} {k : List Item} {cs : List Frame} {e : Ex} {a : Act} {w : World} (h : Steps P m m1) (h' : ArrR P m1 b k cs e a w) : ArrR P m b k cs e a w := by
  cases e with
  | normal => exact h.trans h'
  | exit id => obtain ⟨k1, h1, h2⟩ := h'; exact ⟨k1, h1, h.trans h2⟩
  | ret => obtain ⟨k1, h1⟩ := h'; exact ⟨k1, h.trans h1⟩

def RecOk (P : Program) (rec : Rec) : Prop :=
  ∀ rnd fn code cf outs, rec rnd fn code cf = some outs → ∀ (φ : Phi) (a : Act) (w : World) (b : Frame) (k : List Item) (cs : List Frame), CfR φ cf a w → b.fn = fn → b.kind = .normal → RndR φ rnd b.roundOf →
    ∃ e cf', (e, cf') ∈ outs ∧ ∃ (φ' : Phi) (a' : Act) (w' : World), Stp φ cf.s w φ' cf'.s w' ∧ CfR φ' cf' a' w' ∧ ArrR P (lone (b.atR a (.code code :: k)) cs w) b k cs e a' w'

/-- What a call comes to. -/
def CallAt (P : Program) (g : FuncId) (args : List AV) (s : St) (outs : List (AV × St)) : Prop :=
  ∀ (φ : Phi) (vals : List Value) (w : World) (cs : List Frame), Rel φ s w → VRs φ args vals →
    ∃ v s', (v, s') ∈ outs ∧ ∃ (φ' : Phi) (u : Value) (w' : World) (fr : Frame), Stp φ s w φ' s' w' ∧ Rel φ' s' w' ∧ VR φ' v u ∧
      Steps P (lone (Frame.enter P g vals.toArray .normal) cs w) (lone fr cs w') ∧ fr.fn = g ∧ fr.leaving P w' (.returned u)

def CallOk (P : Program) (call : FuncId → List AV → St → Option (List (AV × St))) : Prop :=
  ∀ g args s outs, call g args s = some outs → CallAt P g args s outs

structure MergeOk (P : Program) (mg : Merge) : Prop where
  mgs : ∀ (l : List (AV × St)) (s0 : St) (φ0 : Phi) (w0 : World) (v : AV) (s1 : St) (φ : Phi) (w : World) (u : Value), (v, s1) ∈ l → Stp φ0 s0 w0 φ s1 w → Rel φ s1 w → VR φ v u →
    ∃ v' s', (v', s') ∈ mg.mg l s0 ∧ Stp φ0 s0 w0 φ s' w ∧ Rel φ s' w ∧ VR φ v' u
  memo : ∀ g args s outs, mg.memo g args s = some outs → CallAt P g args s outs

def RoundOk (P : Program) (round : Nat → List AV → St → Option (List (AV × St))) : Prop :=
  ∀ l args s outs, round l args s = some outs → ∀ (φ : Phi) (vals : List Value) (w : World) (c : Frame) (cs : List Frame) (r sh : Nat), Rel φ s w → VRs φ args vals → φ.blk l = some (r, sh) →
    ∃ v s', (v, s') ∈ outs ∧ ∃ (φ' : Phi) (u : Value) (w' : World) (fn : FuncId) (tmps : Array Value) (assign body : Code), Stp φ s w φ' s' w' ∧ Rel φ' s' w' ∧ VR φ' v u ∧
      (Instr.yield r vals.toArray).run P w = .ok (.round r fn tmps assign body) w ∧ Steps P (lone (Frame.round r fn tmps assign body .normal) (c :: cs) w) (lone (c.finish u) cs w')

/-! ### Ends of functions -/
theorem endDs_ok {fr0 : Frame} {cs : List Frame} : ∀ (ds : List Nat) (defers : List Deferred) (s s' : St) (φ : Phi) (w : World), DsR φ ds defers → Rel φ s w → endDs s ds = some s' →
    ∃ w', Stp φ s w φ s' w' ∧ Rel φ s' w' ∧ Steps P (lone { fr0 with mode := .returning, defers := defers } cs w) (lone { fr0 with mode := .returning, defers := [] } cs w')
  | [], [], s, s', φ, w, _, hr, h => by
    simp [endDs] at h
    subst h
    exact ⟨w, Stp.refl _ _ _, hr, Steps.refl _ _⟩
  | i :: r, d :: q, s, s', φ, w, ⟨⟨x, sh, h1, h2⟩, h3⟩, hr, h => by
    subst h2
    simp only [endDs] at h
    split at h
    · rename_i hb
      obtain ⟨r1, s1, ro, g1, g2, g3⟩ := hr.obj i _ hb
      rw [h1] at g1
      simp at g1
      obtain ⟨rfl, rfl⟩ := g1
      cases g3
      simp only [if_true] at g2
      obtain ⟨p1, p2⟩ := hr.put_old (o := .dfd false) (ro := .deferred none) (by simp [hb]) h1 (.dfd false)
      obtain ⟨w', q1, q2, q3⟩ := endDs_ok r q _ s' φ _ h3 p1 h
      refine ⟨w', p2.trans q1, q2, Steps.head (step_lone_go ?_) q3⟩
      simp [stepG, unwind, Instr.takeDeferred, getObj, setObj, Sem.run, g2, Sem.runT_eq, GStep.bare_after]
    · simp at h

theorem resA_ok (hD : TabOk P D) {T : PT AV} {tmps : Array Value} {φ : Phi} {s : St} {w : World} (hr : Rel φ s w) (ht : TR φ T tmps) {f : ResultVar → Sem Value} (hf1 : ∀ t, f (.tmp t) = pure (tmps.getD t undef))
    (hf2 : ∀ a t, f (.cell a t) = (do loadVar t (← asAddr (tmps.getD a undef)))) : ∀ (rs : List ResultVar) (vs : List AV), resA D T s rs = some vs →
    ∃ us : List Value, VRs φ vs us ∧ (rs.mapM f).run P w = .ok us w
  | [], vs, h => by simp [resA] at h; subst h; exact ⟨[], .nil, rfl⟩
  | .tmp t :: rs, vs, h => by
    simp only [resA] at h
    split at h
    · rename_i v l hv hl
      simp at h; subst h
      obtain ⟨us, g1, g2⟩ := resA_ok hD hr ht hf1 hf2 rs l hl
      obtain ⟨u, h1, h2⟩ := ht t v hv
      refine ⟨u :: us, .cons h2 g1, ?_⟩
      have : tmps.getD t undef = u := by simp [Array.getD_eq_getD_getElem?, h1]
      simp only [List.mapM_cons, hf1, this, Sem.run_bind, Sem.run_pure, Result.andThen_ok, g2]
    · simp at h
  | .cell a t :: rs, vs, h => by
    simp only [resA] at h
    split at h
    · rename_i p hp
      split at h
      · rename_i v l hv hl
        simp at h; subst h
        obtain ⟨us, g1, g2⟩ := resA_ok hD hr ht hf1 hf2 rs l hl
        obtain ⟨q, h1, h2⟩ := ht a p hp
        obtain ⟨u, u1, u2⟩ := loadA_ok hD hr h2 hv
        refine ⟨u :: us, .cons u1 g1, ?_⟩
        have e1 : tmps.getD a undef = q := by simp [Array.getD_eq_getD_getElem?, h1]
        have hq : ∃ x, q = .pointer (some x) := by
          unfold loadA at hv
          split at hv
          · cases h2; exact ⟨_, rfl⟩
          · simp at hv
        obtain ⟨x, rfl⟩ := hq
        have u2' : (loadVar t x).run P w = .ok u w := by simpa [Instr.loadAt, Instr.sureAddr] using u2
        have eA : (asAddr (.pointer (some x))).run P w = .ok x w := rfl
        simp only [List.mapM_cons, hf2, e1, Sem.run_bind, eA, Sem.run_pure, Result.andThen_ok, u2', g2]
      · simp at h
    · simp at h

theorem oneOf_ok {φ : Phi} {vs : List AV} {us : List Value} (h : VRs φ vs us) : VR φ (oneOf vs) (if h : us.toArray.size = 1 then us.toArray[0] else .tuple us.toArray) := by
  cases h with
  | nil => simpa [oneOf] using VR.tuple VRs.nil
  | cons hv hs =>
    cases hs with
    | nil => simpa [oneOf] using hv
    | cons hv' hs' =>
      simp only [oneOf]
      simpa using VR.tuple (.cons hv (.cons hv' hs'))

/-- A function's end. -/
theorem endFn_ok (hD : TabOk P D) {fn : Func} {cf : Cf} {v : AV} {s' : St} {φ : Phi} {w : World} {a : Act} {b : Frame} {cs : List Frame} {k : List Item} (hf : P.funcs[b.fn]? = some fn) (hk : b.kind = .normal) (hc : CfR φ cf a w)
    (h : endFn D fn.results.toList cf = some (v, s')) :
    ∃ u w' fr, Stp φ cf.s w φ s' w' ∧ Rel φ s' w' ∧ VR φ v u ∧ Steps P (lone { b.atR a k with mode := .returning } cs w) (lone fr cs w') ∧ fr.fn = b.fn ∧ fr.leaving P w' (.returned u) := by
  unfold endFn at h
  split at h
  · simp at h
  · rename_i s1 hs1
    split at h
    · simp at h
    · rename_i vs hvs
      simp at h
      obtain ⟨rfl, rfl⟩ := h
      obtain ⟨w', g1, g2, g3⟩ := endDs_ok (P := P) (fr0 := b.atR a k) (cs := cs) cf.ds a.defers cf.s s1 φ w hc.ds hc.s hs1
      rcases hl : fn.results with ⟨l⟩
      rw [hl] at hvs
      obtain ⟨us, r1, r2⟩ := resA_ok (f := fun
        | .tmp t => pure (a.tmps.getD t undef)
        | .cell x t => do loadVar t (← asAddr (a.tmps.getD x undef))) hD g2 hc.t (fun _ => rfl) (fun _ _ => rfl) l vs hvs
      refine ⟨_, w', { b.atR a k with mode := .returning, defers := [] }, g1, g2, oneOf_ok r1, g3, rfl, rfl, rfl, hk, fn, hf, ?_⟩
      have e : (results fn a.tmps) = (do
          let vs ← List.toArray <$> (l.mapM (fun
            | .tmp t => pure (a.tmps.getD t undef)
            | .cell x t => do loadVar t (← asAddr (a.tmps.getD x undef)) : ResultVar → Sem Value))
          pure (if h : vs.size = 1 then vs[0] else .tuple vs)) := by
        unfold results
        rw [hl]
        simp only [List.mapM_toArray]
        rfl
      show (results fn a.tmps).run P w' = _
      rw [e]
      simp only [Sem.run_bind, Sem.run_map, r2, Result.andThen_ok, Sem.run_pure]

theorem endAll_mem {rs : List ResultVar} : ∀ {outs : List (Ex × Cf)} {l : List (AV × St)}, endAll D rs outs = some l → ∀ (e : Ex) (cf : Cf), (e, cf) ∈ outs → (∀ id, e ≠ .exit id) ∧ ∃ x, x ∈ l ∧ endFn D rs cf = some x
  | [], l, h, e, cf, hm => by simp at hm
  | (e0, cf0) :: r, l, h, e, cf, hm => by
    have hne : ∀ id, e0 ≠ .exit id := by
      rintro id rfl
      simp [endAll] at h
    have key : ∃ x l', endFn D rs cf0 = some x ∧ endAll D rs r = some l' ∧ l = x :: l' := by
      cases e0 with
      | exit id => exact absurd rfl (hne id)
      | normal =>
        simp only [endAll] at h
        split at h
        · simp at h; exact ⟨_, _, by assumption, by assumption, h.symm⟩
        · simp at h
      | ret =>
        simp only [endAll] at h
        split at h
        · simp at h; exact ⟨_, _, by assumption, by assumption, h.symm⟩
        · simp at h
    obtain ⟨x, l', h1, h2, rfl⟩ := key
    rcases List.mem_cons.1 hm with hm | hm
    · simp at hm
      obtain ⟨rfl, rfl⟩ := hm
      exact ⟨hne, x, List.mem_cons_self .., h1⟩
    · obtain ⟨q1, y, q2, q3⟩ := endAll_mem h2 e cf hm
      exact ⟨q1, y, List.mem_cons_of_mem _ q2, q3⟩

theorem callB_ok (hD : TabOk P D) {rec : Rec} {mg : Merge} (hrec : RecOk P rec) (hmg : MergeOk P mg) : CallOk P (callB D rec mg) := by
  intro g args s outs h φ vals w cs hr hv
  unfold callB at h
  split at h
  · simp at h
  · rename_i fi hfi
    obtain ⟨fn, c, hf, hb, hnt, hbody, hres, _⟩ := fnOf_call hD hfi
    split at h
    · simp at h
    · rename_i outs' ho
      split at h
      · simp at h
      · rename_i l hl
        simp at h
        subst h
        let b : Frame := { (default : Frame) with fn := g, kind := .normal }
        let a0 : Act := { tmps := vals.toArray ++ Array.replicate (fn.ntmps - vals.toArray.size) undef, defers := [] }
        have henter : Frame.enter P g vals.toArray .normal = b.atR a0 [.code c] := by
          simp [Frame.enter, Frame.atR, hf, hb, b, a0]
          rfl
        have hcf : CfR φ { t := PT.setAll .nil 0 args, n := max args.length fi.nt, s, ds := [] } a0 w := by
          refine ⟨fun i x hi => ?_, ?_, trivial, hr⟩
          · simp only [PT.get_setAll] at hi
            split at hi
            · rename_i hin
              simp only [Nat.sub_zero] at hi
              obtain ⟨u, g1, g2⟩ := hv.get i x hi
              refine ⟨u, ?_, g2⟩
              simp only [a0]
              rw [Array.getElem?_append_left (by have := hv.length; simp; omega)]
              simpa using g1
            · simp at hi
          · have := hv.length
            simp [a0, hnt]
            omega
        rw [hbody] at ho
        obtain ⟨e, cf', hmem, φ', a', w', g1, g2, g3⟩ := hrec none g c _ outs' ho φ a0 w b [] cs hcf rfl rfl trivial
        rw [hres] at hl
        obtain ⟨hne, x, hx, hend⟩ := endAll_mem hl e cf' hmem
        obtain ⟨v, s'⟩ := x
        have hret : ∃ k, Steps P (lone (b.atR a0 [.code c]) cs w) (lone { b.atR a' k with mode := .returning } cs w') := by
          cases e with
          | normal => exact ⟨[], g3.trans (.one (stepR_end rfl))⟩
          | exit id => exact absurd rfl (hne id)
          | ret => obtain ⟨k1, g3⟩ := g3; exact ⟨_, g3.trans (.one (stepR_ret rfl))⟩
        obtain ⟨k, hsteps⟩ := hret
        obtain ⟨u, w2, fr, q1, q2, q3, q4, q5, q6⟩ := endFn_ok (k := k) (cs := cs) hD (show P.funcs[b.fn]? = some fn from hf) rfl g2 hend
        obtain ⟨v', s'', m1, m2, m3, m4⟩ := hmg.mgs l s φ w v s' φ' w2 u hx (g1.trans q1) q2 q3
        exact ⟨v', s'', m1, φ', u, w2, fr, m2, m3, m4, by rw [henter]; exact hsteps.trans q4, q5, q6⟩

theorem callF_ok (hD : TabOk P D) {rec : Rec} {mg : Merge} (hrec : RecOk P rec) (hmg : MergeOk P mg) : CallOk P (callF D rec mg) := by
  intro g args s outs h
  unfold callF at h
  split at h
  · rename_i l hl
    simp at h
    subst h
    exact hmg.memo g args s _ hl
  · exact callB_ok hD hrec hmg g args s outs h

/-! ### Rounds of a range over a function -/
theorem Rel.loop {φ : Phi} {s : St} {w : World} (h : Rel φ s w) {l : Nat} {st : LoopState} {pd : Option Code} {fn : FuncId} {t : PT AV} {n : Nat} {ps : List Tmp} {assign body : Code} {ds : Nat} (hb : s.h.get l = some (.loop st pd fn t n ps assign body ds)) {r sh : Nat} (hr : φ.blk l = some (r, sh)) :
    ∃ L : Loop, w.heap[r]? = some (.loop L) ∧ L.state = st ∧ L.pending = pd ∧ L.fn = fn ∧ TR φ t L.tmps ∧ L.tmps.size = n ∧ L.params.toList = ps ∧ L.assign = assign ∧ L.body = body ∧ ∃ rd shd, φ.blk ds = some (rd, shd) ∧ L.defers = rd := by
  obtain ⟨r', sh', ro, h1, h2, h3⟩ := h.obj l _ hb
  rw [hr] at h1
  simp at h1
  obtain ⟨rfl, rfl⟩ := h1
  cases h3 with
  | loop ht hd hd' => exact ⟨_, h2, rfl, rfl, rfl, ht, rfl, rfl, rfl, rfl, _, _, hd, hd'⟩

theorem Rel.put_loop {φ : Phi} {s : St} {w : World} (h : Rel φ s w) {l r sh : Nat} (hl : (s.h.get l).isSome = true) (hr : φ.blk l = some (r, sh)) {L : Loop} {t : PT AV} {ds rd shd : Nat} (ht : TR φ t L.tmps) (hd : φ.blk ds = some (rd, shd)) (hd' : L.defers = rd) :
    Rel φ { s with h := s.h.set l (.loop L.state L.pending L.fn t L.tmps.size L.params.toList L.assign L.body ds) } { w with heap := w.heap.setIfInBounds r (.loop L) } ∧
      Stp φ s w φ { s with h := s.h.set l (.loop L.state L.pending L.fn t L.tmps.size L.params.toList L.assign L.body ds) } { w with heap := w.heap.setIfInBounds r (.loop L) } :=
  h.put_old hl hr (.loop ht hd hd')

theorem setPs_ok {φ : Phi} {n : Nat} : ∀ (ps : List Tmp) (vs : List AV) (us : List Value) (t t' : PT AV) (tmps : Array Value), VRs φ vs us → TR φ t tmps → tmps.size = n → setPs n t ps vs = some t' →
    ps.length = us.length ∧ TR φ t' ((ps.zip us).foldl (fun tmps (x : Tmp × Value) => tmps.setIfInBounds x.1 x.2) tmps) ∧ ((ps.zip us).foldl (fun tmps (x : Tmp × Value) => tmps.setIfInBounds x.1 x.2) tmps).size = n
  | [], [], us, t, t', tmps, hv, ht, hn, h => by
    simp [setPs] at h
    subst h
    cases hv
    exact ⟨rfl, ht, hn⟩
  | [], _ :: _, us, t, t', tmps, hv, ht, hn, h => by simp [setPs] at h
  | _ :: _, [], us, t, t', tmps, hv, ht, hn, h => by simp [setPs] at h
  | p :: ps, v :: vs, us, t, t', tmps, hv, ht, hn, h => by
    cases hv with
    | cons hv hvs =>
      rename_i u us
      simp only [setPs] at h
      have ht' : TR φ (putA t n (some p) v) (tmps.setIfInBounds p u) := by
        intro i a hi
        unfold putA at hi
        simp only at hi
        split at hi
        · rename_i hlt
          have hlt := blt_true hlt
          rw [PT.get_set] at hi
          by_cases e : i = p
          · subst e
            simp at hi
            subst hi
            exact ⟨u, by simp [hn, hlt], hv⟩
          · rw [if_neg e] at hi
            obtain ⟨x, h1, h2⟩ := ht i a hi
            exact ⟨x, by rw [Array.getElem?_setIfInBounds_ne (Ne.symm e)]; exact h1, h2⟩
        · rename_i hlt
          obtain ⟨x, h1, h2⟩ := ht i a hi
          have hge : ¬ p < n := by
            intro hc
            have : Nat.blt p n = true := by simpa [Nat.blt, Nat.ble_eq] using (show p + 1 ≤ n from hc)
            rw [this] at hlt
            simp at hlt
          have hil := (Array.getElem?_eq_some_iff.1 h1).1
          rw [hn] at hil
          have : i ≠ p := by
            rintro rfl
            exact hge hil
          exact ⟨x, by rw [Array.getElem?_setIfInBounds_ne (Ne.symm this)]; exact h1, h2⟩
      obtain ⟨g1, g2, g3⟩ := setPs_ok ps vs us _ t' (tmps.setIfInBounds p u) hvs ht' (by simpa using hn) h
      exact ⟨by simp [g1], g2, g3⟩

theorem run_getLoop' {w : World} {l : Nat} {r : Loop} (h : w.heap[l]? = some (.loop r)) : (getObj l).run P w = .ok (.loop r) w := by simp [getObj, Sem.run, h]

theorem roundEnds_mem {l : Nat} : ∀ {outs : List (Ex × Cf)} {m : List (AV × St)}, roundEnds l outs = some m → ∀ (e : Ex) (cf : Cf), (e, cf) ∈ outs →
    cf.ds = [] ∧ ∃ x, x ∈ m ∧ endRound l cf.s (match e with | .normal => none | .exit id => some (.exit id) | .ret => some .ret) = some x
  | [], m, h, e, cf, hm => by simp at hm
  | (e0, cf0) :: r, m, h, e, cf, hm => by
    simp only [roundEnds] at h
    split at h
    · simp at h
    · rename_i hds
      split at h
      · rename_i x m' hx hm'
        simp at h
        subst h
        rcases List.mem_cons.1 hm with hm | hm
        · simp at hm
          obtain ⟨rfl, rfl⟩ := hm
          exact ⟨hds, x, List.mem_cons_self .., hx⟩
        · obtain ⟨q0, y, q2, q3⟩ := roundEnds_mem hm' e cf hm
          exact ⟨q0, y, List.mem_cons_of_mem _ q2, q3⟩
      · simp at h

theorem endRound_ok {φ : Phi} {s : St} {w : World} (hr : Rel φ s w) {l r sh : Nat} {jump : Option Code} {v : AV} {s' : St} (hb : φ.blk l = some (r, sh)) (h : endRound l s jump = some (v, s')) :
    ∃ u w', (Instr.endRound r jump).run P w = .ok u w' ∧ VR φ v u ∧ Stp φ s w φ s' w' ∧ Rel φ s' w' := by
  unfold endRound at h
  split at h
  · rename_i st pd fn t n ps assign body ds hl
    obtain ⟨L, g1, g2, g3, g4, g5, g6, g7, g8, g9, rd, shd, g10, g11⟩ := hr.loop hl hb
    subst g2 g3 g4 g6 g7 g8 g9
    simp at h
    obtain ⟨rfl, rfl⟩ := h
    have hput := hr.put_loop (L := { L with state := if jump.isNone then .ready else .done, pending := jump }) (by simp [hl]) hb g5 g10 g11
    refine ⟨.bool jump.isNone, { w with heap := w.heap.setIfInBounds r (.loop { L with state := if jump.isNone then .ready else .done, pending := jump }) }, ?_, ?_, ?_, ?_⟩
    · simp only [Instr.endRound, Instr.getLoop, Sem.run_bind, run_getLoop' g1, Result.andThen_ok, Sem.run_pure, setObj, Sem.run, g1]
    · cases jump <;> exact .bool _
    · cases jump <;> exact hput.2
    · cases jump <;> exact hput.1
  · simp at h

theorem roundF_ok {rec : Rec} (hrec : RecOk P rec) : RoundOk P (roundF rec) := by
  intro l args s outs h φ vals w c cs r sh hr hv hb
  unfold roundF at h
  split at h
  · rename_i st pd fn t n ps assign body ds hl
    obtain ⟨L, g1, g2, g3, g4, g5, g6, g7, g8, g9, rd, shd, g10, g11⟩ := hr.loop hl hb
    split at h
    · simp at h
    · rename_i t' ht'
      obtain ⟨p1, p2, p3⟩ := setPs_ok ps args vals t t' L.tmps hv g5 g6 ht'
      split at h
      · rename_i cf hassign
        split at h
        · rename_i pd2 fn2 t2 n2 ps2 as2 bd2 ds2 hl2
          split at h
          · rename_i outs2 hbody
            let tm : Array Value := (ps.zip vals).foldl (fun tmps (x : Tmp × Value) => tmps.setIfInBounds x.1 x.2) L.tmps
            let b : Frame := { (default : Frame) with fn := fn, kind := .normal, roundOf := some r }
            let a0 : Act := { tmps := tm, defers := [] }
            have hround : Frame.round r fn tm assign body .normal = b.atR a0 [.code assign, .beginRound, .code body] := by
              simp [Frame.round, Frame.atR, b, a0]
            have hcf : CfR φ { t := t', n, s, ds := [] } a0 w := ⟨p2, p3, trivial, hr⟩
            obtain ⟨e1, cf1, m1, φ1, a1, w1, q1, q2, q3⟩ := hrec (some l) fn assign _ _ hassign φ a0 w b [.beginRound, .code body] (c :: cs) hcf rfl rfl ⟨sh, hb⟩
            simp at m1
            obtain ⟨rfl, rfl⟩ := m1
            have hb1 : φ1.blk l = some (r, sh) := q1.ext.blk _ _ hb
            obtain ⟨L2, d1, d2, d3, d4, d5, d6, d7, d8, d9, rd2, shd2, d10, d11⟩ := q2.s.loop hl2 hb1
            have hput := q2.s.put_loop (L := { L2 with state := .busy }) (by simp [hl2]) hb1 d5 d10 d11
            subst d3 d4 d6 d7 d8 d9
            have hbegin : (Instr.beginRound r).run P w1 = .ok () { w1 with heap := w1.heap.setIfInBounds r (.loop { L2 with state := .busy }) } := by
              simp only [Instr.beginRound, Instr.getLoop, Sem.run_bind, run_getLoop' d1, Result.andThen_ok, Sem.run_pure, setObj, Sem.run, d1, d2]
            obtain ⟨e2, cf2, m2, φ2, a2, w2, q4, q5, q6⟩ := hrec (some l) fn body _ _ hbody φ1 a1 _ b [] (c :: cs) ⟨q2.t, q2.n, q2.ds, hput.1⟩ rfl rfl ⟨sh, hb1⟩
            have hb2 : φ2.blk l = some (r, sh) := q4.ext.blk _ _ hb1
            obtain ⟨_, x, mx, hend⟩ := roundEnds_mem h e2 cf2 m2
            obtain ⟨v, s'⟩ := x
            obtain ⟨u, w3, z1, z2, z3, z4⟩ := endRound_ok (P := P) q5.s hb2 hend
            have s1 : Steps P (lone (Frame.round r fn tm assign body .normal) (c :: cs) w) (lone (b.atR a1 [.beginRound, .code body]) (c :: cs) w1) := by rw [hround]; exact q3
            have s2 := s1.trans (.one (stepR_beginRound (P := P) (b := b) (a := a1) (k := [.code body]) (cs := c :: cs) rfl hbegin))
            refine ⟨v, s', mx, φ2, u, w3, fn, tm, assign, body, ((q1.trans hput.2).trans q4).trans z3, z4, z2, ?_, ?_⟩
            · have hsz : ¬ (vals.toArray.size ≠ L.params.size) := by
                have : L.params.size = ps.length := by rw [← g7]; simp
                rw [this, p1]; simp
              simp only [Instr.yield, Instr.getLoop, Sem.run_bind, run_getLoop' g1, Result.andThen_ok, Sem.run_pure]
              rw [if_neg hsz]
              simp only [Sem.run_pure, g4, g8, g9]
              congr 2
              simp only [tm]
              rw [← Array.foldl_toList, Array.toList_zip, g7]
            · cases e2 with
              | normal => exact s2.trans (q6.trans (.one (stepR_round_end rfl rfl z1)))
              | exit id =>
                obtain ⟨k1, y1, y2⟩ := q6
                exact s2.trans (y2.trans (.one (stepR_round_exit rfl rfl y1 z1)))
              | ret =>
                obtain ⟨k1, y2⟩ := q6
                exact s2.trans (y2.trans (.one (stepR_round_ret rfl rfl z1)))
          · simp at h
        · simp at h
      · simp at h
  · simp at h

end Go.Eng
