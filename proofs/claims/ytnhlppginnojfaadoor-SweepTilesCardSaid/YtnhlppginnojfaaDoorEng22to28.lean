/-
  The abstract interpreter, its soundness: operations, calls, rounds, regions that are walked in the order of the text.
  The abstract interpreter, its soundness: one operation as the machine takes it, and regions in the order of the text.
  The abstract interpreter, its soundness: operations that read nothing, operations that only read, operations that make a block.
  The abstract interpreter, its soundness: operations that make a block, whatever the block is called.
  The abstract interpreter, its soundness: which operations of a region are ahead of which.
  The abstract interpreter, its soundness: the walk over a region that draws, in the order of the text.
  The abstract interpreter, its soundness: a region that draws, in whatever order.
-/
import Derived.Test.YtnhlppginnojfaaDoorEng20to21
import Derived.RangeFuncIn
set_option linter.unusedVariables false
set_option linter.unusedSimpArgs false
namespace Go.Eng
variable {P : Program} {D : Tab}
def DsR (φ : Phi) : List Nat → List Deferred → Prop
 | [], [] => True
 | i :: r, d :: q => (∃ x sh, φ.blk i = some (x, sh) ∧ d = { target := .collected x, args := #[] }) ∧ DsR φ r q
 | _, _ => False
theorem DsR.mono {p q : Phi} (h : p.le q) : ∀ {l : List Nat} {d : List Deferred}, DsR p l d → DsR q l d
 | [], [], _ => trivial
 | _ :: _, _ :: _, ⟨⟨x, sh, h1, h2⟩, h3⟩ => ⟨⟨x, sh, h.blk _ _ h1, h2⟩, h3.mono h⟩
structure CfR (φ : Phi) (cf : Cf) (a : Act) (w : World) : Prop where
 t : TR φ cf.t a.tmps
 n : a.tmps.size = cf.n
 ds : DsR φ cf.ds a.defers
 s : Rel φ cf.s w
def RndR (φ : Phi) : Option Nat → Option Nat → Prop
 | none, none => True
 | some l, some r => ∃ sh, φ.blk l = some (r, sh)
 | _, _ => False
theorem RndR.mono {p q : Phi} (h : p.le q) {a b : Option Nat} (hr : RndR p a b) : RndR q a b := by
 cases a <;> cases b <;> simp only [RndR] at hr ⊢
 obtain ⟨sh, hr⟩ := hr
 exact ⟨sh, h.blk _ _ hr⟩
def ArrR (P : Program) (m : Machine) (b : Frame) (k : List Item) (cs : List Frame) : Ex → Act → World → Prop
 | .normal, a, w => Steps P m (lone (b.atR a k) cs w)
 | .exit id, a, w => ∃ k1, exitTo id k1 = exitTo id k ∧ Steps P m (lone (b.atR a (.code (.exit id) :: k1)) cs w)
 | .ret, a, w => ∃ k1, Steps P m (lone (b.atR a (.code .ret :: k1)) cs w)
theorem ArrR.of_steps {m m1 : Machine} {b : Frame} {k : List Item} {cs : List Frame} {e : Ex} {a : Act} {w : World} (h : Steps P m m1) (h' : ArrR P m1 b k cs e a w) : ArrR P m b k cs e a w := by
 cases e with
 | normal => exact h.trans h'
 | exit id => obtain ⟨k1, h1, h2⟩ := h'; exact ⟨k1, h1, h.trans h2⟩
 | ret => obtain ⟨k1, h1⟩ := h'; exact ⟨k1, h.trans h1⟩
def RecOk (P : Program) (rec : Rec) : Prop :=
 ∀ rnd fn code cf outs, rec rnd fn code cf = some outs → ∀ (φ : Phi) (a : Act) (w : World) (b : Frame) (k : List Item) (cs : List Frame), CfR φ cf a w → b.fn = fn → b.kind = .normal → RndR φ rnd b.roundOf →
  ∃ e cf', (e, cf') ∈ outs ∧ ∃ (φ' : Phi) (a' : Act) (w' : World), Stp φ cf.s w φ' cf'.s w' ∧ CfR φ' cf' a' w' ∧ ArrR P (lone (b.atR a (.code code :: k)) cs w) b k cs e a' w'
def CallAt (P : Program) (g : FuncId) (args : List AV) (s : St) (outs : List (AV × St)) : Prop :=
 ∀ (φ : Phi) (vals : List Value) (w : World) (cs : List Frame), Rel φ s w → VRs φ args vals →
  ∃ v s', (v, s') ∈ outs ∧ ∃ (φ' : Phi) (u : Value) (w' : World) (fr : Frame), Stp φ s w φ' s' w' ∧ Rel φ' s' w' ∧ VR φ' v u ∧
   Steps P (lone (Frame.enter P g vals.toArray .normal) cs w) (lone fr cs w') ∧ fr.fn = g ∧ fr.leaving P w' (.returned u)
def CallOk (P : Program) (call : FuncId → List AV → St → Option (List (AV × St))) : Prop :=
 ∀ g args s outs, call g args s = some outs → CallAt P g args s outs
def LoopAt (P : Program) (rnd : Option Nat) (fn : FuncId) (code : Code) (cf : Cf) (outs : List (Ex × Cf)) : Prop :=
 ∀ (φ : Phi) (a : Act) (w : World) (b : Frame) (k : List Item) (cs : List Frame), CfR φ cf a w → b.fn = fn → b.kind = .normal → RndR φ rnd b.roundOf →
  ∃ e cf', (e, cf') ∈ outs ∧ ∃ (φ' : Phi) (a' : Act) (w' : World), Stp φ cf.s w φ' cf'.s w' ∧ CfR φ' cf' a' w' ∧ ArrR P (lone (b.atR a (.code code :: .inLoop code :: k)) cs w) b k cs e a' w'
structure MergeOk (P : Program) (mg : Merge) : Prop where
 mgs : ∀ (l : List (AV × St)) (s0 : St) (φ0 : Phi) (w0 : World) (v : AV) (s1 : St) (φ : Phi) (w : World) (u : Value), (v, s1) ∈ l → Stp φ0 s0 w0 φ s1 w → Rel φ s1 w → VR φ v u →
  ∃ v' s', (v', s') ∈ mg.mg l s0 ∧ Stp φ0 s0 w0 φ s' w ∧ Rel φ s' w ∧ VR φ v' u
 memo : ∀ g args s outs, mg.memo g args s = some outs → CallAt P g args s outs
 lps : ∀ rnd fn code cf outs, mg.lp rnd fn code cf = some outs → LoopAt P rnd fn code cf outs
 orcs : ∀ fs f y, mg.orc fs f = some y → ∀ e : Env, Known1 e fs → (if y then f else f.neg).holds e
def RoundOk (P : Program) (round : Nat → List AV → St → Option (List (AV × St))) : Prop :=
 ∀ l args s outs, round l args s = some outs → ∀ (φ : Phi) (vals : List Value) (w : World) (c : Frame) (cs : List Frame) (r sh : Nat), Rel φ s w → VRs φ args vals → φ.blk l = some (r, sh) →
  ∃ v s', (v, s') ∈ outs ∧ ∃ (φ' : Phi) (u : Value) (w' : World) (fn : FuncId) (tmps : Array Value) (assign body : Code), Stp φ s w φ' s' w' ∧ Rel φ' s' w' ∧ VR φ' v u ∧
   (Instr.yield r vals.toArray).run P w = .ok (.round r fn tmps assign body) w ∧ Steps P (lone (Frame.round r fn tmps assign body .normal) (c :: cs) w) (lone (c.finish u) cs w')
theorem endDs_ok {fr0 : Frame} {cs : List Frame} : ∀ (ds : List Nat) (defers : List Deferred) (s s' : St) (φ : Phi) (w : World), DsR φ ds defers → Rel φ s w → endDs s ds = some s' →
  ∃ w', Stp φ s w φ s' w' ∧ Rel φ s' w' ∧ Steps P (lone { fr0 with mode := .returning, defers := defers } cs w) (lone { fr0 with mode := .returning, defers := [] } cs w')
 | [], [], s, s', φ, w, _, hr, h => by
  simp [endDs] at h
  subst h
  exact ⟨w, Stp.refl _ _ _, hr, Steps.refl _ _⟩
 | i :: r, d :: q, s, s', φ, w, ⟨⟨x, sh, h1, h2⟩, h3⟩, hr, h => by
  subst h2
  simp only [endDs] at h
  split at h
  ·rename_i hb
   obtain ⟨r1, s1, ro, g1, g2, g3⟩ := hr.objN hb (by simp)
   rw [h1] at g1
   simp at g1
   obtain ⟨rfl, rfl⟩ := g1
   cases g3
   simp only [if_true] at g2
   obtain ⟨p1, p2⟩ := hr.put_old (o := .dfd false) (ro := .deferred none) (by simp [ownB, hb]) h1 (.dfd false) (fun _ _ _ hx => by rw [g2] at hx; simp at hx)
   obtain ⟨w', q1, q2, q3⟩ := endDs_ok r q _ s' φ _ h3 p1 h
   refine ⟨w', p2.trans q1, q2, Steps.head (step_lone_go ?_) q3⟩
   simp [stepG, unwind, Instr.takeDeferred, getObj, setObj, Sem.run, g2, Sem.runT_eq, GStep.bare_after]
  ·simp at h
theorem resA_ok (hD : TabOk P D) {T : PT AV} {tmps : Array Value} {φ : Phi} {s : St} {w : World} (hr : Rel φ s w) (ht : TR φ T tmps) {f : ResultVar → Sem Value} (hf1 : ∀ t, f (.tmp t) = pure (tmps.getD t undef))
  (hf2 : ∀ a t, f (.cell a t) = (do loadVar t (← asAddr (tmps.getD a undef)))) : ∀ (rs : List ResultVar) (vs : List AV), resA D T s rs = some vs →
  ∃ us : List Value, VRs φ vs us ∧ (rs.mapM f).run P w = .ok us w
 | [], vs, h => by simp [resA] at h; subst h; exact ⟨[], .nil, rfl⟩
 | .tmp t :: rs, vs, h => by
  simp only [resA] at h
  split at h
  ·rename_i v l hv hl
   simp at h; subst h
   obtain ⟨us, g1, g2⟩ := resA_ok hD hr ht hf1 hf2 rs l hl
   obtain ⟨u, h1, h2⟩ := ht t v hv
   refine ⟨u :: us, .cons h2 g1, ?_⟩
   have : tmps.getD t undef = u := by simp [Array.getD_eq_getD_getElem?, h1]
   simp only [List.mapM_cons, hf1, this, Sem.run_bind, Sem.run_pure, Result.andThen_ok, g2]
  ·simp at h
 | .cell a t :: rs, vs, h => by
  simp only [resA] at h
  split at h
  ·rename_i p hp
   split at h
   ·rename_i v l hv hl
    simp at h; subst h
    obtain ⟨us, g1, g2⟩ := resA_ok hD hr ht hf1 hf2 rs l hl
    obtain ⟨q, h1, h2⟩ := ht a p hp
    obtain ⟨u, u1, u2⟩ := loadA_ok hD hr h2 hv
    refine ⟨u :: us, .cons u1 g1, ?_⟩
    have e1 : tmps.getD a undef = q := by simp [Array.getD_eq_getD_getElem?, h1]
    have hq : ∃ x, q = .pointer (some x) := by
     unfold loadA at hv
     split at hv
     ·cases h2; exact ⟨_, rfl⟩
     ·simp at hv
    obtain ⟨x, rfl⟩ := hq
    have u2' : (loadVar t x).run P w = .ok u w := by simpa [Instr.loadAt, Instr.sureAddr] using u2
    have eA : (asAddr (.pointer (some x))).run P w = .ok x w := rfl
    simp only [List.mapM_cons, hf2, e1, Sem.run_bind, eA, Sem.run_pure, Result.andThen_ok, u2', g2]
   ·simp at h
  ·simp at h
theorem oneOf_ok {φ : Phi} {vs : List AV} {us : List Value} (h : VRs φ vs us) : VR φ (oneOf vs) (if h : us.toArray.size = 1 then us.toArray[0] else .tuple us.toArray) := by
 cases h with
 | nil => simpa [oneOf] using VR.tuple VRs.nil
 | cons hv hs =>
  cases hs with
  | nil => simpa [oneOf] using hv
  | cons hv' hs' =>
   simp only [oneOf]
   simpa using VR.tuple (.cons hv (.cons hv' hs'))
theorem endFn_ok (hD : TabOk P D) {fn : Func} {cf : Cf} {v : AV} {s' : St} {φ : Phi} {w : World} {a : Act} {b : Frame} {cs : List Frame} {k : List Item} (hf : P.funcs[b.fn]? = some fn) (hk : b.kind = .normal) (hc : CfR φ cf a w)
  (h : endFn D fn.results.toList cf = some (v, s')) :
  ∃ u w' fr, Stp φ cf.s w φ s' w' ∧ Rel φ s' w' ∧ VR φ v u ∧ Steps P (lone { b.atR a k with mode := .returning } cs w) (lone fr cs w') ∧ fr.fn = b.fn ∧ fr.leaving P w' (.returned u) := by
 unfold endFn at h
 split at h
 ·simp at h
 ·rename_i s1 hs1
  split at h
  ·simp at h
  ·rename_i vs hvs
   simp at h
   obtain ⟨rfl, rfl⟩ := h
   obtain ⟨w', g1, g2, g3⟩ := endDs_ok (P := P) (fr0 := b.atR a k) (cs := cs) cf.ds a.defers cf.s s1 φ w hc.ds hc.s hs1
   rcases hl : fn.results with ⟨l⟩
   rw [hl] at hvs
   obtain ⟨us, r1, r2⟩ := resA_ok (f := fun
    | .tmp t => pure (a.tmps.getD t undef)
    | .cell x t => do loadVar t (← asAddr (a.tmps.getD x undef))) hD g2 hc.t (fun _ => rfl) (fun _ _ => rfl) l vs hvs
   refine ⟨_, w', { b.atR a k with mode := .returning, defers := [] }, g1, g2, oneOf_ok r1, g3, rfl, rfl, rfl, hk, fn, hf, ?_⟩
   have e : (results fn a.tmps) = (do
     let vs ← List.toArray <$> (l.mapM (fun
      | .tmp t => pure (a.tmps.getD t undef)
      | .cell x t => do loadVar t (← asAddr (a.tmps.getD x undef)) : ResultVar → Sem Value))
     pure (if h : vs.size = 1 then vs[0] else .tuple vs)) := by
    unfold results
    rw [hl]
    simp only [List.mapM_toArray]
    rfl
   show (results fn a.tmps).run P w' = _
   rw [e]
   simp only [Sem.run_bind, Sem.run_map, r2, Result.andThen_ok, Sem.run_pure]
theorem endAll_mem {rs : List ResultVar} : ∀ {outs : List (Ex × Cf)} {l : List (AV × St)}, endAll D rs outs = some l → ∀ (e : Ex) (cf : Cf), (e, cf) ∈ outs → (∀ id, e ≠ .exit id) ∧ ∃ x, x ∈ l ∧ endFn D rs cf = some x
 | [], l, h, e, cf, hm => by simp at hm
 | (e0, cf0) :: r, l, h, e, cf, hm => by
  have hne : ∀ id, e0 ≠ .exit id := by
   rintro id rfl
   simp [endAll] at h
  have key : ∃ x l', endFn D rs cf0 = some x ∧ endAll D rs r = some l' ∧ l = x :: l' := by
   cases e0 with
   | exit id => exact absurd rfl (hne id)
   | normal =>
    simp only [endAll] at h
    split at h
    ·simp at h; exact ⟨_, _, by assumption, by assumption, h.symm⟩
    ·simp at h
   | ret =>
    simp only [endAll] at h
    split at h
    ·simp at h; exact ⟨_, _, by assumption, by assumption, h.symm⟩
    ·simp at h
  obtain ⟨x, l', h1, h2, rfl⟩ := key
  rcases List.mem_cons.1 hm with hm | hm
  ·simp at hm
   obtain ⟨rfl, rfl⟩ := hm
   exact ⟨hne, x, List.mem_cons_self .., h1⟩
  ·obtain ⟨q1, y, q2, q3⟩ := endAll_mem h2 e cf hm
   exact ⟨q1, y, List.mem_cons_of_mem _ q2, q3⟩
theorem callB_ok (hD : TabOk P D) {rec : Rec} {mg : Merge} (hrec : RecOk P rec) (hmg : MergeOk P mg) : CallOk P (callB D rec mg) := by
 intro g args s outs h φ vals w cs hr hv
 unfold callB at h
 split at h
 ·simp at h
 ·rename_i fi hfi
  obtain ⟨fn, c, hf, hb, hnt, hbody, hres, _⟩ := fnOf_call hD hfi
  split at h
  ·simp at h
  ·rename_i outs' ho
   split at h
   ·simp at h
   ·rename_i l hl
    simp at h
    subst h
    let b : Frame := { (default : Frame) with fn := g, kind := .normal }
    let a0 : Act := { tmps := vals.toArray ++ Array.replicate (fn.ntmps - vals.toArray.size) undef, defers := [] }
    have henter : Frame.enter P g vals.toArray .normal = b.atR a0 [.code c] := by
     simp [Frame.enter, Frame.atR, hf, hb, b, a0]
     rfl
    have hcf : CfR φ { t := PT.setAll .nil 0 args, n := max args.length fi.nt, s, ds := [] } a0 w := by
     refine ⟨fun i x hi => ?_, ?_, trivial, hr⟩
     ·simp only [PT.get_setAll] at hi
      split at hi
      ·rename_i hin
       simp only [Nat.sub_zero] at hi
       obtain ⟨u, g1, g2⟩ := hv.get i x hi
       refine ⟨u, ?_, g2⟩
       simp only [a0]
       rw [Array.getElem?_append_left (by have := hv.length; simp; omega)]
       simpa using g1
      ·simp at hi
     ·have := hv.length
      simp [a0, hnt]
      omega
    rw [hbody] at ho
    obtain ⟨e, cf', hmem, φ', a', w', g1, g2, g3⟩ := hrec none g c _ outs' ho φ a0 w b [] cs hcf rfl rfl trivial
    rw [hres] at hl
    obtain ⟨hne, x, hx, hend⟩ := endAll_mem hl e cf' hmem
    obtain ⟨v, s'⟩ := x
    have hret : ∃ k, Steps P (lone (b.atR a0 [.code c]) cs w) (lone { b.atR a' k with mode := .returning } cs w') := by
     cases e with
     | normal => exact ⟨[], g3.trans (.one (stepR_end rfl))⟩
     | exit id => exact absurd rfl (hne id)
     | ret => obtain ⟨k1, g3⟩ := g3; exact ⟨_, g3.trans (.one (stepR_ret rfl))⟩
    obtain ⟨k, hsteps⟩ := hret
    obtain ⟨u, w2, fr, q1, q2, q3, q4, q5, q6⟩ := endFn_ok (k := k) (cs := cs) hD (show P.funcs[b.fn]? = some fn from hf) rfl g2 hend
    obtain ⟨v', s'', m1, m2, m3, m4⟩ := hmg.mgs l s φ w v s' φ' w2 u hx (g1.trans q1) q2 q3
    exact ⟨v', s'', m1, φ', u, w2, fr, m2, m3, m4, by rw [henter]; exact hsteps.trans q4, q5, q6⟩
theorem callF_ok (hD : TabOk P D) {rec : Rec} {mg : Merge} (hrec : RecOk P rec) (hmg : MergeOk P mg) : CallOk P (callF D rec mg) := by
 intro g args s outs h
 unfold callF at h
 split at h
 ·rename_i l hl
  simp at h
  subst h
  exact hmg.memo g args s _ hl
 ·exact callB_ok hD hrec hmg g args s outs h
theorem Rel.loop {φ : Phi} {s : St} {w : World} (h : Rel φ s w) {l : Nat} {st : LoopState} {pd : Option Code} {fn : FuncId} {t : PT AV} {n : Nat} {ps : List Tmp} {assign body : Code} {ds : Nat} (hb : s.h.get l = some (.loop st pd fn t n ps assign body ds)) {r sh : Nat} (hr : φ.blk l = some (r, sh)) :
  ∃ L : Loop, w.heap[r]? = some (.loop L) ∧ L.state = st ∧ L.pending = pd ∧ L.fn = fn ∧ TR φ t L.tmps ∧ L.tmps.size = n ∧ L.params.toList = ps ∧ L.assign = assign ∧ L.body = body ∧ ∃ rd shd, φ.blk ds = some (rd, shd) ∧ L.defers = rd := by
 obtain ⟨r', sh', ro, h1, h2, h3⟩ := h.objN hb (by simp)
 rw [hr] at h1
 simp at h1
 obtain ⟨rfl, rfl⟩ := h1
 cases h3 with
 | loop ht hd hd' => exact ⟨_, h2, rfl, rfl, rfl, ht, rfl, rfl, rfl, rfl, _, _, hd, hd'⟩
theorem Rel.put_loop {φ : Phi} {s : St} {w : World} (h : Rel φ s w) {l r sh : Nat} (hl : ownB s.h l = true) (hr : φ.blk l = some (r, sh)) {L : Loop} {t : PT AV} {ds rd shd : Nat} (ht : TR φ t L.tmps) (hd : φ.blk ds = some (rd, shd)) (hd' : L.defers = rd)
  (hnc : ∀ (arr : Array Value) (e : TypeId) (fz : Nat × Nat), w.heap[r]? = some (.cells arr e fz) → ∃ arr' fz', Obj.loop L = .cells arr' e fz' ∧ arr'.size = arr.size) :
  Rel φ { s with h := s.h.set l (.loop L.state L.pending L.fn t L.tmps.size L.params.toList L.assign L.body ds) } { w with heap := w.heap.setIfInBounds r (.loop L) } ∧
   Stp φ s w φ { s with h := s.h.set l (.loop L.state L.pending L.fn t L.tmps.size L.params.toList L.assign L.body ds) } { w with heap := w.heap.setIfInBounds r (.loop L) } :=
 h.put_old hl hr (.loop ht hd hd') hnc
theorem setPs_ok {φ : Phi} {n : Nat} : ∀ (ps : List Tmp) (vs : List AV) (us : List Value) (t t' : PT AV) (tmps : Array Value), VRs φ vs us → TR φ t tmps → tmps.size = n → setPs n t ps vs = some t' →
  ps.length = us.length ∧ TR φ t' ((ps.zip us).foldl (fun tmps (x : Tmp × Value) => tmps.setIfInBounds x.1 x.2) tmps) ∧ ((ps.zip us).foldl (fun tmps (x : Tmp × Value) => tmps.setIfInBounds x.1 x.2) tmps).size = n
 | [], [], us, t, t', tmps, hv, ht, hn, h => by
  simp [setPs] at h
  subst h
  cases hv
  exact ⟨rfl, ht, hn⟩
 | [], _ :: _, us, t, t', tmps, hv, ht, hn, h => by simp [setPs] at h
 | _ :: _, [], us, t, t', tmps, hv, ht, hn, h => by simp [setPs] at h
 | p :: ps, v :: vs, us, t, t', tmps, hv, ht, hn, h => by
  cases hv with
  | cons hv hvs =>
   rename_i u us
   simp only [setPs] at h
   have ht' : TR φ (putA t n (some p) v) (tmps.setIfInBounds p u) := by
    intro i a hi
    unfold putA at hi
    simp only at hi
    split at hi
    ·rename_i hlt
     have hlt := blt_true hlt
     rw [PT.get_set] at hi
     by_cases e : i = p
     ·subst e
      simp at hi
      subst hi
      exact ⟨u, by simp [hn, hlt], hv⟩
     ·rw [if_neg e] at hi
      obtain ⟨x, h1, h2⟩ := ht i a hi
      exact ⟨x, by rw [Array.getElem?_setIfInBounds_ne (Ne.symm e)]; exact h1, h2⟩
    ·rename_i hlt
     obtain ⟨x, h1, h2⟩ := ht i a hi
     have hge : ¬ p < n := by
      intro hc
      have : Nat.blt p n = true := by simpa [Nat.blt, Nat.ble_eq] using (show p + 1 ≤ n from hc)
      rw [this] at hlt
      simp at hlt
     have hil := (Array.getElem?_eq_some_iff.1 h1).1
     rw [hn] at hil
     have : i ≠ p := by
      rintro rfl
      exact hge hil
     exact ⟨x, by rw [Array.getElem?_setIfInBounds_ne (Ne.symm this)]; exact h1, h2⟩
   obtain ⟨g1, g2, g3⟩ := setPs_ok ps vs us _ t' (tmps.setIfInBounds p u) hvs ht' (by simpa using hn) h
   exact ⟨by simp [g1], g2, g3⟩
theorem run_getLoop' {w : World} {l : Nat} {r : Loop} (h : w.heap[l]? = some (.loop r)) : (getObj l).run P w = .ok (.loop r) w := by simp [getObj, Sem.run, h]
theorem roundEnds_mem {l : Nat} : ∀ {outs : List (Ex × Cf)} {m : List (AV × St)}, roundEnds l outs = some m → ∀ (e : Ex) (cf : Cf), (e, cf) ∈ outs →
  cf.ds = [] ∧ ∃ x, x ∈ m ∧ endRound l cf.s (match e with | .normal => none | .exit id => some (.exit id) | .ret => some .ret) = some x
 | [], m, h, e, cf, hm => by simp at hm
 | (e0, cf0) :: r, m, h, e, cf, hm => by
  simp only [roundEnds] at h
  split at h
  ·simp at h
  ·rename_i hds
   split at h
   ·rename_i x m' hx hm'
    simp at h
    subst h
    rcases List.mem_cons.1 hm with hm | hm
    ·simp at hm
     obtain ⟨rfl, rfl⟩ := hm
     exact ⟨hds, x, List.mem_cons_self .., hx⟩
    ·obtain ⟨q0, y, q2, q3⟩ := roundEnds_mem hm' e cf hm
     exact ⟨q0, y, List.mem_cons_of_mem _ q2, q3⟩
   ·simp at h
theorem endRound_ok {φ : Phi} {s : St} {w : World} (hr : Rel φ s w) {l r sh : Nat} {jump : Option Code} {v : AV} {s' : St} (hb : φ.blk l = some (r, sh)) (h : endRound l s jump = some (v, s')) :
  ∃ u w', (Instr.endRound r jump).run P w = .ok u w' ∧ VR φ v u ∧ Stp φ s w φ s' w' ∧ Rel φ s' w' := by
 unfold endRound at h
 split at h
 ·rename_i st pd fn t n ps assign body ds hl
  obtain ⟨L, g1, g2, g3, g4, g5, g6, g7, g8, g9, rd, shd, g10, g11⟩ := hr.loop hl hb
  subst g2 g3 g4 g6 g7 g8 g9
  simp at h
  obtain ⟨rfl, rfl⟩ := h
  have hput := hr.put_loop (L := { L with state := if jump.isNone then .ready else .done, pending := jump }) (by simp [ownB, hl]) hb g5 g10 g11 (fun _ _ _ hx => by rw [g1] at hx; simp at hx)
  refine ⟨.bool jump.isNone, { w with heap := w.heap.setIfInBounds r (.loop { L with state := if jump.isNone then .ready else .done, pending := jump }) }, ?_, ?_, ?_, ?_⟩
  ·simp only [Instr.endRound, Instr.getLoop, Sem.run_bind, run_getLoop' g1, Result.andThen_ok, Sem.run_pure, setObj, Sem.run, g1]
  ·cases jump <;> exact .bool _
  ·cases jump <;> exact hput.2
  ·cases jump <;> exact hput.1
 ·simp at h
theorem roundF_ok {rec : Rec} (hrec : RecOk P rec) : RoundOk P (roundF rec) := by
 intro l args s outs h φ vals w c cs r sh hr hv hb
 unfold roundF at h
 split at h
 ·rename_i st pd fn t n ps assign body ds hl
  obtain ⟨L, g1, g2, g3, g4, g5, g6, g7, g8, g9, rd, shd, g10, g11⟩ := hr.loop hl hb
  split at h
  ·simp at h
  ·rename_i t' ht'
   obtain ⟨p1, p2, p3⟩ := setPs_ok ps args vals t t' L.tmps hv g5 g6 ht'
   split at h
   ·rename_i cf hassign
    split at h
    ·rename_i pd2 fn2 t2 n2 ps2 as2 bd2 ds2 hl2
     split at h
     ·rename_i outs2 hbody
      let tm : Array Value := (ps.zip vals).foldl (fun tmps (x : Tmp × Value) => tmps.setIfInBounds x.1 x.2) L.tmps
      let b : Frame := { (default : Frame) with fn := fn, kind := .normal, roundOf := some r }
      let a0 : Act := { tmps := tm, defers := [] }
      have hround : Frame.round r fn tm assign body .normal = b.atR a0 [.code assign, .beginRound, .code body] := by
       simp [Frame.round, Frame.atR, b, a0]
      have hcf : CfR φ { t := t', n, s, ds := [] } a0 w := ⟨p2, p3, trivial, hr⟩
      obtain ⟨e1, cf1, m1, φ1, a1, w1, q1, q2, q3⟩ := hrec (some l) fn assign _ _ hassign φ a0 w b [.beginRound, .code body] (c :: cs) hcf rfl rfl ⟨sh, hb⟩
      simp at m1
      obtain ⟨rfl, rfl⟩ := m1
      have hb1 : φ1.blk l = some (r, sh) := q1.ext.blk _ _ hb
      obtain ⟨L2, d1, d2, d3, d4, d5, d6, d7, d8, d9, rd2, shd2, d10, d11⟩ := q2.s.loop hl2 hb1
      have hput := q2.s.put_loop (L := { L2 with state := .busy }) (by simp [ownB, hl2]) hb1 d5 d10 d11 (fun _ _ _ hx => by rw [d1] at hx; simp at hx)
      subst d3 d4 d6 d7 d8 d9
      have hbegin : (Instr.beginRound r).run P w1 = .ok () { w1 with heap := w1.heap.setIfInBounds r (.loop { L2 with state := .busy }) } := by
       simp only [Instr.beginRound, Instr.getLoop, Sem.run_bind, run_getLoop' d1, Result.andThen_ok, Sem.run_pure, setObj, Sem.run, d1, d2]
      obtain ⟨e2, cf2, m2, φ2, a2, w2, q4, q5, q6⟩ := hrec (some l) fn body _ _ hbody φ1 a1 _ b [] (c :: cs) ⟨q2.t, q2.n, q2.ds, hput.1⟩ rfl rfl ⟨sh, hb1⟩
      have hb2 : φ2.blk l = some (r, sh) := q4.ext.blk _ _ hb1
      obtain ⟨_, x, mx, hend⟩ := roundEnds_mem h e2 cf2 m2
      obtain ⟨v, s'⟩ := x
      obtain ⟨u, w3, z1, z2, z3, z4⟩ := endRound_ok (P := P) q5.s hb2 hend
      have s1 : Steps P (lone (Frame.round r fn tm assign body .normal) (c :: cs) w) (lone (b.atR a1 [.beginRound, .code body]) (c :: cs) w1) := by rw [hround]; exact q3
      have s2 := s1.trans (.one (stepR_beginRound (P := P) (b := b) (a := a1) (k := [.code body]) (cs := c :: cs) rfl hbegin))
      refine ⟨v, s', mx, φ2, u, w3, fn, tm, assign, body, ((q1.trans hput.2).trans q4).trans z3, z4, z2, ?_, ?_⟩
      ·have hsz : ¬ (vals.toArray.size ≠ L.params.size) := by
        have : L.params.size = ps.length := by rw [← g7]; simp
        rw [this, p1]; simp
       simp only [Instr.yield, Instr.getLoop, Sem.run_bind, run_getLoop' g1, Result.andThen_ok, Sem.run_pure]
       rw [if_neg hsz]
       simp only [Sem.run_pure, g4, g8, g9]
       congr 2
       simp only [tm]
       rw [← Array.foldl_toList, Array.toList_zip, g7]
      ·cases e2 with
       | normal => exact s2.trans (q6.trans (.one (stepR_round_end rfl rfl z1)))
       | exit id =>
        obtain ⟨k1, y1, y2⟩ := q6
        exact s2.trans (y2.trans (.one (stepR_round_exit rfl rfl y1 z1)))
       | ret =>
        obtain ⟨k1, y2⟩ := q6
        exact s2.trans (y2.trans (.one (stepR_round_ret rfl rfl z1)))
     ·simp at h
    ·simp at h
   ·simp at h
 ·simp at h
end Go.Eng

namespace Go.Eng
variable {P : Program} {D : Tab}
theorem TR.put {φ : Phi} {T : PT AV} {a : Act} {n : Nat} {d : Option Tmp} {v : AV} {u : Value} (ht : TR φ T a.tmps) (hn : a.tmps.size = n) (hv : VR φ v u) : TR φ (putA T n d v) (a.put d u).tmps := by
 cases d with
 | none => exact ht
 | some p =>
  intro i x hi
  unfold putA at hi
  simp only at hi
  simp only [Act.put]
  split at hi
  ·rename_i hlt
   have hlt := blt_true hlt
   rw [PT.get_set] at hi
   by_cases e : i = p
   ·subst e
    simp at hi
    subst hi
    exact ⟨u, by simp [hn, hlt], hv⟩
   ·rw [if_neg e] at hi
    obtain ⟨y, h1, h2⟩ := ht i x hi
    exact ⟨y, by rw [Array.getElem?_setIfInBounds_ne (Ne.symm e)]; exact h1, h2⟩
  ·rename_i hlt
   obtain ⟨y, h1, h2⟩ := ht i x hi
   have hge : ¬ p < n := by
    intro hc
    have : Nat.blt p n = true := by simpa [Nat.blt, Nat.ble_eq] using (show p + 1 ≤ n from hc)
    rw [this] at hlt
    simp at hlt
   have hil := (Array.getElem?_eq_some_iff.1 h1).1
   rw [hn] at hil
   have : i ≠ p := by
    rintro rfl
    exact hge hil
   exact ⟨y, by rw [Array.getElem?_setIfInBounds_ne (Ne.symm this)]; exact h1, h2⟩
theorem Act.size_put (a : Act) (d : Option Tmp) (u : Value) : (a.put d u).tmps.size = a.tmps.size := by
 cases d <;> simp [Act.put]
theorem Act.defers_put (a : Act) (d : Option Tmp) (u : Value) : (a.put d u).defers = a.defers := by
 cases d <;> simp [Act.put]
theorem VR.not_bool {φ : Phi} {v : AV} {b : Bool} (h : VR φ v (.bool b)) : v = .bool b := by
 cases h with
 | bool => rfl
 | sym _ hp => simp [plainV] at hp
theorem guardOk_ok {φ : Phi} {T : PT AV} {tmps : Array Value} {ops : Array Oper} {o : Oper} {g : Bool} (ht : TR φ T tmps) (h : guardOk T ops o = some g) : Region.wanted o (yielded ops tmps) = g := by
 unfold guardOk at h
 unfold Region.wanted
 split at h
 ·rename_i hg
  simp at h
  simp [hg, h]
 ·rename_i j want hg
  split at h
  ·rename_i x hx
   split at h
   ·rename_i d hd
    split at h
    ·rename_i b hb
     simp at h
     obtain ⟨u, h1, h2⟩ := ht d _ hb
     cases h2
     simp [hg, yielded, hx, hd, h1, ← h]
    ·rename_i v hnb hv
     simp at h
     obtain ⟨u, h1, h2⟩ := ht d _ hv
     subst h
     have : ∀ b, u ≠ .bool b := by
      rintro b rfl
      have := h2.not_bool
      subst this
      exact hnb _ rfl
     simp only [hg, yielded, hx, Option.bind_some, hd, h1]
     split
     ·rename_i hh; simp at hh; exact absurd hh (this _)
     ·rfl
    ·simp at h
   ·simp at h
  ·simp at h
theorem opA_nodefer {T : PT AV} {s : St} {op : Op} {d : Do} (h : opA D T s op = some d) : ∀ c, op ≠ .defer c := by
 rintro c rfl
 simp [opA] at h
theorem oper_ok (hD : TabOk P D) {rec : Rec} {mg : Merge} (hrec : RecOk P rec) (hmg : MergeOk P mg) {T : PT AV} {s : St} {o : Oper} {l : List (AV × St)} (h : oper D rec mg T s o.op = some l) {φ : Phi} {a : Act} {w : World} (b : Frame) (k : List Item) (cs : List Frame)
  {ops : Array Oper} {i : Nat} {rest : List Nat} (ho : ops[i]? = some o) (hw : Region.wanted o (yielded ops a.tmps) = true) (ht : TR φ T a.tmps) (hr : Rel φ s w) :
  ∃ v s', (v, s') ∈ l ∧ ∃ φ' u w', Stp φ s w φ' s' w' ∧ Rel φ' s' w' ∧ VR φ' v u ∧ Steps P (lone (b.atR a (.inRegion ops (i :: rest) :: k)) cs w) (lone (b.atR (a.put o.dst u) (.inRegion ops rest :: k)) cs w') := by
 have hg := stepGR_op (P := P) (b := b) (k := k) (cs := cs) (w := w) (rest := rest) ho hw
 have hfin : ∀ v, (b.atR a (.inRegion ops (i :: rest) :: k)).finish v = b.atR (a.put o.dst v) (.inRegion ops rest :: k) := by
  intro v; rw [Frame.finish_atR, ho]; rfl
 unfold oper at h
 split at h
 ·simp at h
 ·rename_i v s' hd
  have hok := opA_ok hD hr (EvR.of_act ht) hd
  rw [Oper.semAt_eq _ _ _ (opA_nodefer hd)] at hg
  simp only [Option.some.injEq] at h
  subst h
  obtain ⟨φ', w', u, h1, h2, h3, h4⟩ := hok
  refine ⟨v, s', by simp, φ', u, w', h2, h3, h4, .one (step_lone_go ?_)⟩
  rw [hg, ← hfin]
  rcases h1 with h1 | ⟨h1, rfl⟩ <;> simp [stepG.apply, h1]
 ·rename_i g args hd
  have hok := opA_ok hD hr (EvR.of_act ht) hd
  rw [Oper.semAt_eq _ _ _ (opA_nodefer hd)] at hg
  obtain ⟨vals, h1, h2⟩ := hok
  obtain ⟨v, s', m, φ', u, w', fr, q1, q2, q3, q4, q5, q6⟩ := callF_ok hD hrec hmg g args s l h φ vals w (b.atR a (.inRegion ops (i :: rest) :: k) :: cs) hr h1
  refine ⟨v, s', m, φ', u, w', q1, q2, q3, ?_⟩
  have henter : step P (lone (b.atR a (.inRegion ops (i :: rest) :: k)) cs w) =
    .next (lone (Frame.enter P g vals.toArray .normal) (b.atR a (.inRegion ops (i :: rest) :: k) :: cs) w) :=
   step_lone_go (by rw [hg]; simp [stepG.apply, h2, Frame.atR])
  refine .head henter (q4.trans (.one ?_))
  rw [← hfin]
  exact step_leave_returned q6
 ·rename_i l' args hd
  have hok := opA_ok hD hr (EvR.of_act ht) hd
  rw [Oper.semAt_eq _ _ _ (opA_nodefer hd)] at hg
  obtain ⟨vals, x, sh, h1, h2, h3⟩ := hok
  obtain ⟨v, s', m, φ', u, w', fn, tmps, assign, body, q1, q2, q3, q4, q5⟩ := roundF_ok hrec l' args s l h φ vals w (b.atR a (.inRegion ops (i :: rest) :: k)) cs x sh hr h1 h2
  refine ⟨v, s', m, φ', u, w', q1, q2, q3, ?_⟩
  have henter : step P (lone (b.atR a (.inRegion ops (i :: rest) :: k)) cs w) =
    .next (lone (Frame.round x fn tmps assign body .normal) (b.atR a (.inRegion ops (i :: rest) :: k) :: cs) w) :=
   step_lone_go (by rw [hg]; simp [stepG.apply, h3, q4, Frame.atR])
  refine .head henter ?_
  rw [← hfin]
  exact q5
 ·rename_i it str hd
  have hok := opA_ok hD hr (EvR.of_act ht) hd
  rw [Oper.semAt_eq _ _ _ (opA_nodefer hd)] at hg
  obtain ⟨iv, ty, h1, h2⟩ := hok
  obtain ⟨v, s', m, u, w', q1, q2, q3, q4⟩ := nextA_ok (P := P) hr h1 h ty
  refine ⟨v, s', m, φ, u, w', q3, q4, q2, .one (step_lone_go ?_)⟩
  rw [hg, ← hfin]
  simp [stepG.apply, h2, q1]
theorem bindL_mem {α β : Type} {f : α → Option (List β)} : ∀ {l : List α} {m : List β}, bindL l f = some m → ∀ x, x ∈ l → ∃ r, f x = some r ∧ ∀ y, y ∈ r → y ∈ m
 | [], m, h, x, hx => by simp at hx
 | y :: r, m, h, x, hx => by
  simp only [bindL] at h
  split at h
  ·simp at h
  ·rename_i l' hl'
   split at h
   ·simp at h
   ·rename_i m' hm'
    simp at h
    subst h
    rcases List.mem_cons.1 hx with rfl | hx
    ·exact ⟨l', hl', fun z hz => List.mem_append_left _ hz⟩
    ·obtain ⟨r', g1, g2⟩ := bindL_mem hm' x hx
     exact ⟨r', g1, fun z hz => List.mem_append_right _ (g2 z hz)⟩
theorem CfR.put {φ : Phi} {cf : Cf} {a : Act} {w : World} (h : CfR φ cf a w) {d : Option Tmp} {v : AV} {u : Value} (hv : VR φ v u) : CfR φ { cf with t := putA cf.t cf.n d v } (a.put d u) w :=
 ⟨h.t.put h.n hv, by rw [Act.size_put]; exact h.n, by rw [Act.defers_put]; exact h.ds, h.s⟩
theorem CfR.step {φ φ' : Phi} {cf : Cf} {a : Act} {w w' : World} {s' : St} (h : CfR φ cf a w) (hs : Stp φ cf.s w φ' s' w') (hr : Rel φ' s' w') : CfR φ' { cf with s := s' } a w' :=
 ⟨h.t.mono hs.ext, h.n, h.ds.mono hs.ext, hr⟩
theorem seqOps_ok (hD : TabOk P D) {rec : Rec} {mg : Merge} (hrec : RecOk P rec) (hmg : MergeOk P mg) {ops : Array Oper} (b : Frame) (k : List Item) (cs : List Frame) : ∀ (l : List Oper) (i : Nat) (cf : Cf) (outs : List Cf) (φ : Phi) (a : Act) (w : World), ops.toList.drop i = l →
  seqOps D rec mg ops l cf = some outs → CfR φ cf a w →
  ∃ cf', cf' ∈ outs ∧ ∃ φ' a' w', Stp φ cf.s w φ' cf'.s w' ∧ CfR φ' cf' a' w' ∧ Steps P (lone (b.atR a (.inRegion ops (List.range' i l.length) :: k)) cs w) (lone (b.atR a' k) cs w')
 | [], i, cf, outs, φ, a, w, _, h, hc => by
  simp [seqOps] at h
  subst h
  exact ⟨cf, by simp, φ, a, w, Stp.refl _ _ _, hc, .one stepR_region_end⟩
 | o :: r, i, cf, outs, φ, a, w, hl, h, hc => by
  have ho : ops[i]? = some o := by
   have h1 : (ops.toList.drop i)[0]? = some o := by rw [hl]; rfl
   simpa using h1
  have hr : ops.toList.drop (i + 1) = r := by
   have : ops.toList.drop (i + 1) = (ops.toList.drop i).drop 1 := by simp
   rw [this, hl]; rfl
  simp only [List.length_cons, List.range'_succ]
  simp only [seqOps] at h
  split at h
  ·simp at h
  ·rename_i hg
   have hw := guardOk_ok hc.t hg
   have hs := stepR_op_skip (P := P) (b := b) (a := a) (k := k) (cs := cs) (w := w) (ops := ops) (i := i) (rest := List.range' (i + 1) r.length) (by simp [ho, hw])
   simp only [ho, Option.bind_some] at hs
   obtain ⟨cf', m, φ', a', w', g1, g2, g3⟩ := seqOps_ok hD hrec hmg b k cs r (i + 1) _ outs φ _ w hr h (hc.put (d := o.dst) (VR.undef (φ := φ)))
   exact ⟨cf', m, φ', a', w', g1, g2, .head hs g3⟩
  ·rename_i hg
   have hw := guardOk_ok hc.t hg
   split at h
   ·simp at h
   ·rename_i v s hop
    obtain ⟨v', s', m, φ', u, w', q1, q2, q3, q4⟩ := oper_ok hD hrec hmg hop b k cs (rest := List.range' (i + 1) r.length) ho hw hc.t hc.s
    simp only [List.mem_singleton, Prod.mk.injEq] at m
    obtain ⟨rfl, rfl⟩ := m
    obtain ⟨cf', m, φ2, a', w2, g1, g2, g3⟩ := seqOps_ok hD hrec hmg b k cs r (i + 1) _ outs φ' _ w' hr h ((hc.step q1 q2).put (d := o.dst) q3)
    exact ⟨cf', m, φ2, a', w2, q1.trans g1, g2, q4.trans g3⟩
   ·rename_i l' _ hop
    obtain ⟨v', s', m, φ', u, w', q1, q2, q3, q4⟩ := oper_ok hD hrec hmg hop b k cs (rest := List.range' (i + 1) r.length) ho hw hc.t hc.s
    obtain ⟨r', h1, h2⟩ := bindL_mem h _ m
    obtain ⟨cf', m, φ2, a', w2, g1, g2, g3⟩ := seqOps_ok hD hrec hmg b k cs r (i + 1) _ r' φ' _ w' hr h1 ((hc.step q1 q2).put (d := o.dst) q3)
    exact ⟨cf', h2 _ m, φ2, a', w2, q1.trans g1, g2, q4.trans g3⟩
end Go.Eng

namespace Go.Eng
variable {P : Program} {D : Tab} {φ : Phi} {s s1 : St} {w : World} {T : PT AV} {ρ : Operand → Value}
theorem v1_any {s s' : St} {x : Option AV} {v : AV} (h : v1 s x = some (.val v s')) (s2 : St) : v1 s2 x = some (.val v s2) := by
 obtain ⟨u, rfl, h2⟩ := v1_ok h
 simp at h2
 obtain ⟨rfl, rfl⟩ := h2
 rfl
theorem v1_same {s s' : St} {x : Option AV} {v : AV} (h : v1 s x = some (.val v s')) : s' = s := by
 obtain ⟨u, rfl, h2⟩ := v1_ok h
 simp at h2
 exact h2.2
theorem st1_same {s s' : St} {x : Option AV} {v : AV} (h : st1 s x = some (v, s')) : x = some v ∧ s' = s := by
 unfold st1 at h
 split at h
 ·simp at h; exact ⟨by rw [h.1], h.2.symm⟩
 ·simp at h
theorem pure_any {op : Op} (hk : kindOf D op = .pure) {v : AV} {s s' : St} (h : opA D T s op = some (.val v s')) (s2 : St) : opA D T s2 op = some (.val v s2) := by
 cases op <;> simp only [opA] at h ⊢ <;> first | (simp at h; done) | exact v1_any h s2 | (unfold kindOf at hk; simp at hk; done) | skip
 case pick => obtain ⟨a, h1, h⟩ := ev1_ok h; unfold ev1; simp only [h1]; exact v1_any h s2
 case field => obtain ⟨a, h1, h⟩ := ev1_ok h; unfold ev1; simp only [h1]; exact v1_any h s2
 case fieldAddr => obtain ⟨a, h1, h⟩ := ev1_ok h; unfold ev1; simp only [h1]; exact v1_any h s2
 case index => obtain ⟨a, b, h1, h2, h⟩ := ev2_ok h; unfold ev2; simp only [h1, h2]; exact v1_any h s2
 case unOp => obtain ⟨a, h1, h⟩ := ev1_ok h; unfold ev1; simp only [h1]; exact v1_any h s2
 case extract => obtain ⟨a, h1, h⟩ := ev1_ok h; unfold ev1; simp only [h1]; exact v1_any h s2
 case makeInterface => obtain ⟨a, h1, h⟩ := ev1_ok h; unfold ev1; simp only [h1]; exact v1_any h s2
 case nilCheck => obtain ⟨a, h1, h⟩ := ev1_ok h; unfold ev1; simp only [h1]; exact v1_any h s2
 case build =>
  split at h
  ·exact v1_any h s2
  ·simp at h
 case makeFunc =>
  unfold fnOp at h ⊢
  split at h
  ·split at h
   ·simp at h; simp [h.1]
   ·simp at h
  ·simp at h
 case slice =>
  obtain ⟨a, h1, h⟩ := ev1_ok h; unfold ev1; simp only [h1]
  unfold sliceOp at h ⊢
  split at h
  ·exact v1_any h s2
  ·simp at h
 case binOp o t x y z =>
  obtain ⟨a, b, h1, h2, h⟩ := ev2_ok h
  unfold ev2; simp only [h1, h2]
  have : binA D s2 o t x y a b = binA D s o t x y a b := by
   have e1 : symA s2 o a b = symA s o a b := by
    unfold symA
    cases o <;> first | (simp [kindOf] at hk; done) | simp only [isCmp]
   have e2 : binB D s2 o t x y a b = binB D s o t x y a b := by
    unfold binB
    cases a <;> simp only
    all_goals
     unfold eqA
     cases o <;> first | (simp [kindOf] at hk; done) | simp only [isEq]
   unfold binA
   rw [e1, e2]
  rw [this]; exact v1_any h s2
 case convert a b x =>
  obtain ⟨u, h1, h⟩ := ev1_ok h; unfold ev1; simp only [h1]
  obtain ⟨v', s'', h2, h3⟩ := v2_ok h
  simp at h3
  obtain ⟨rfl, rfl⟩ := h3
  unfold kindOf at hk
  simp only at hk
  split at hk
  ·rename_i r i hi
   unfold convS at h2 ⊢
   simp only [hi] at h2 ⊢
   split at h2
   ·rename_i i' j' hi' hj'
    simp at hj'
    subst hj'
    simp only at h2 ⊢
    split at h2
    ·simp at h2; simp [v2, h2.1]
    ·simp at h2; simp [v2, h2.1]
    ·simp at h2
   ·simp at h2
  ·simp at hk
 case call c =>
  obtain ⟨callee, args, ats⟩ := c
  cases callee <;> simp only [kindOf] at hk <;> first | (simp at hk; done) | skip
  rename_i b
  cases b <;> simp only [] at hk <;> first | (simp at hk; done) | skip
  all_goals
   simp only [callOp] at h ⊢
   split at h
   ·simp at h
   ·obtain ⟨v', s'', h2, h3⟩ := v2_ok h
    simp at h3
    obtain ⟨rfl, rfl⟩ := h3
    simp only [builtinA] at h2 ⊢
    split at h2
    ·obtain ⟨h4, _⟩ := st1_same h2
     simp [h4, st1, v2]
    ·simp at h2
theorem read_same {op : Op} (hk : kindOf D op = .read) {v : AV} {s s' : St} (h : opA D T s op = some (.val v s')) : s' = s := by
 cases op <;> simp only [opA] at h <;> first | (simp at h; done) | (unfold kindOf at hk; simp at hk; done) | skip
 case load => obtain ⟨a, h1, h⟩ := ev1_ok h; exact v1_same h
 case lookup => obtain ⟨a, b, h1, h2, h⟩ := ev2_ok h; exact v1_same h
 case binOp => obtain ⟨a, b, h1, h2, h⟩ := ev2_ok h; exact v1_same h
 case indexAddr => obtain ⟨a, b, h1, h2, h⟩ := ev2_ok h; exact v1_same h
 case convert => unfold kindOf at hk; simp only at hk; split at hk <;> simp at hk
 case call c =>
  obtain ⟨callee, args, ats⟩ := c
  cases callee <;> simp only [kindOf] at hk <;> first | (simp at hk; done) | skip
  rename_i b
  cases b <;> simp only [] at hk <;> first | (simp at hk; done) | skip
  simp only [callOp] at h
  split at h
  ·simp at h
  ·obtain ⟨v', s'', h2, h3⟩ := v2_ok h
   simp at h3
   obtain ⟨rfl, rfl⟩ := h3
   simp only [builtinA] at h2
   split at h2
   ·exact (st1_same h2).2
   ·simp at h2
end Go.Eng

namespace Go.Eng
variable {P : Program} {D : Tab} {φ : Phi} {s s1 : St} {w : World} {T : PT AV} {ρ : Operand → Value}
def RawR (φ : Phi) (s : St) (w : World) (v : AV) (s' : St) (run : Value → World → Prop) : Prop :=
 ∃ ob ro u, s'.h = s.h.set s.nx ob ∧ OR φ 0 ob ro ∧ (∀ φ' : Phi, φ'.blk s.nx = some (w.heap.size, 0) → VR φ' v u) ∧ run u { w with heap := w.heap.push ro }
theorem cells_raw (w : World) {φ : Phi} {vs : List AV} {us : List Value} (_ : VRs φ vs us) (e : TypeId) : ∃ w', (newRow e us.toArray).run P w = .ok ⟨w.heap.size, 0, none⟩ w' ∧ w' = { w with heap := w.heap.push (.cells us.toArray e (0, 0)) } :=
 ⟨_, by simp [newRow], rfl⟩
theorem CellsOR {φ : Phi} {vs : List AV} {us : List Value} (hv : VRs φ vs us) {e : TypeId} : OR φ 0 (.cells (PT.setAll .nil 0 vs) vs.length none) (.cells us.toArray e (0, 0)) := .cells (CellsR.of_list hv)
theorem RawR.mk {φ : Phi} {s : St} {w : World} {v : AV} {vs : List AV} {ro : Obj} {u : Value} {run : Value → World → Prop} (ho : OR φ 0 (.cells (PT.setAll .nil 0 vs) vs.length none) ro)
  (hv : ∀ φ' : Phi, φ'.blk s.nx = some (w.heap.size, 0) → VR φ' v u) (h : run u { w with heap := w.heap.push ro }) : RawR φ s w v (newCells s vs).2 run :=
 ⟨_, ro, u, rfl, ho, hv, h⟩
section
variable (hD : TabOk P D)
include hD
theorem makeSliceA_raw (w : World) {t : TypeId} {l c v : AV} {lv cv : Value} {s' : St} (hl : VR φ l lv) (hc : VR φ c cv) (h : makeSliceA D s t l c = some (v, s')) :
  RawR φ s w v s' fun u w' => (Instr.makeSlice t lv cv).run P w = .ok u w' := by
 unfold makeSliceA at h
 split at h
 ·rename_i i k n k' m hi
  split at h
  ·rename_i e hid
   obtain ⟨de, _, hde, hu⟩ := run_under hD hi w
   rw [hid] at hde
   obtain rfl : de = .slice e := by cases de <;> simp [tdOf] at hde; rw [hde]
   split at h
   ·rename_i ei hei
    split at h
    ·rename_i z hz
     split at h
     ·rename_i hcond
      simp only [Bool.and_eq_true, decide_eq_true_eq] at hcond
      obtain ⟨⟨⟨⟨h0, h1⟩, h2⟩, h3⟩, h4⟩ := hcond
      have h3 := ble_true h3
      have hzl := beq_true h4
      unfold pow48 at h3
      simp at h
      obtain ⟨rfl, rfl⟩ := h
      cases hl; cases hc
      obtain ⟨ti, t1, t2, t3, t4, t5⟩ := run_info hD hei w
      obtain ⟨zv, z1, z2⟩ := run_zero hD hei hz w
      have hzc := (constAV_ok (φ := φ) z2).cells
      have hzs : zv.cells.toList.length = ei.size := by rw [← hzc.length]; exact hzl
      have hzeros := zeros_ok hzc m.toNat
      obtain ⟨w', g1, g2⟩ := cells_raw (P := P) w hzeros e
      subst g2
      have hm0 : 0 ≤ m := by omega
      have wl : IntKind.i64.wrap n = n := by unfold IntKind.wrap; simp [IntKind.bits, IntKind.signed]; omega
      have wm : IntKind.i64.wrap m = m := by unfold IntKind.wrap; simp [IntKind.bits, IntKind.signed]; omega
      have hb : ¬ ((ti.bytes : Int) * m > 2 ^ 48) := by
       rw [t3] at h3
       have e : (ti.bytes : Int) * m = ((ti.bytes * m.toNat : Nat) : Int) := by
        rw [Int.natCast_mul, Int.toNat_of_nonneg hm0]
       rw [e]
       omega
      have hnle : ¬ n > m := by omega
      have hn0 : ¬ n < 0 := by omega
      have hm0' : ¬ m < 0 := by omega
      refine RawR.mk (CellsOR (e := e) hzeros) (fun φ' hb => VR.slice hb (.exact m.toNat) 0 n.toNat (by omega)) ?_
      have hcond2 : ((decide (m < 0) || decide ((ti.bytes : Int) * m > 2 ^ 48)) || decide (n < 0) || decide (n > m)) = false := by
       simp [hm0', hn0, hnle]
       omega
      have hsz := run_size hD hei w
      simp only [Instr.makeSlice, Sem.run_bind, hu, Result.andThen_ok, asInt, asIntOf, Sem.run_pure, t5, wl, wm, hcond2, Bool.false_eq_true, if_false, run_askRoom, hsz]
      by_cases hz0 : m.toNat * ei.size = 0
      ·have : (zerosV zv.cells.toList m.toNat).length = 0 := by rw [zerosV_length, hzs]; exact hz0
       have h0' : zerosV zv.cells.toList m.toNat = [] := by cases hq : zerosV zv.cells.toList m.toNat <;> simp_all
       rw [h0'] at g1
       have e0 : Array.range 0 = #[] := Array.toList_inj.1 (by simp)
       simp only [hz0, if_true, e0]
       simp [g1, h0']
      ·simp only [hz0, if_false, Sem.run_bind, z1, Sem.run_pure, Result.andThen_ok]
       have hrange := range_map_zeros zv.cells.toList m.toNat ei.size hzs
       simp only [Array.toArray_toList] at hrange
       rw [hrange, g1]
       simp
     ·simp at h
    ·simp at h
   ·simp at h
  ·simp at h
 ·simp at h
theorem buildSliceA_raw (w : World) {t : TypeId} {n : Nat} {vs : List AV} {us : List Value} {ps : Array (Nat × Operand)} {v : AV} {s' : St} (hv : VRs φ vs us) (hul : us = ps.toList.map fun x => ρ x.2)
  (h : buildSliceA D s t n (ps.toList.map (·.1)) vs = some (v, s')) :
  RawR φ s w v s' fun u w' => (Instr.buildSlice t n (ps.map fun (i, x) => (i, ρ x))).run P w = .ok u w' := by
 unfold buildSliceA at h
 split at h
 ·rename_i i hi
  split at h
  ·rename_i e hid
   obtain ⟨de, _, hde, hu⟩ := run_under hD hi w
   rw [hid] at hde
   obtain rfl : de = .slice e := by cases de <;> simp [tdOf] at hde; rw [hde]
   split at h
   ·rename_i ei hei
    split at h
    ·rename_i z hz
     split at h
     ·rename_i hcond
      simp only [Bool.and_eq_true] at hcond
      have h1 := ble_true hcond.1
      have hzl := beq_true hcond.2
      split at h
      ·rename_i cs hf
       simp at h
       obtain ⟨rfl, rfl⟩ := h
       obtain ⟨zv, z1, z2⟩ := run_zero hD hei hz w
       have hzc := (constAV_ok (φ := φ) z2).cells
       have hzs : zv.cells.toList.length = ei.size := by rw [← hzc.length]; exact hzl
       have hzeros := zeros_ok hzc n
       have hlen : vs.length = ps.toList.length := by rw [hv.length, hul]; simp
       have hlp : ps.toList.length = ps.size := by simp
       obtain ⟨us', g1, g2⟩ := fillP_ok (place := fun i => some (i * ei.size, ei.size)) (range_places n ei.size) ((ps.toList.map (·.1)).zip vs) (ps.toList.map fun x => (x.1, ρ x.2)) (zeros z.cells n) (zerosV zv.cells.toList n) cs hzeros (by
        rw [List.map_fst_zip (by simp; omega)]; simp) (by
        rw [List.map_snd_zip (by simp; omega)]
        have : (ps.toList.map fun x => (x.1, ρ x.2)).map (·.2) = us := by rw [hul]; simp
        rw [this]; exact hv) hf
       obtain ⟨w', q1, q2⟩ := cells_raw (P := P) w g2 e
       subst q2
       refine RawR.mk (CellsOR (e := e) g2) (fun φ' hb => VR.slice hb (.exact n) 0 n (Nat.le_refl _)) ?_
       have hsz := run_size hD hei w
       have hbig : ¬ n * ei.size > 2 ^ 24 := by omega
       have e1 : (ps.map fun (i, x) => (i, ρ x)).toList = ps.toList.map fun x => (x.1, ρ x.2) := by simp
       simp only [Instr.buildSlice, Sem.run_bind, hu, Result.andThen_ok, hsz, hbig, if_false, e1]
       by_cases hz0 : n * ei.size = 0
       ·have : (zerosV zv.cells.toList n).length = 0 := by rw [zerosV_length, hzs]; exact hz0
        have h0' : zerosV zv.cells.toList n = [] := by cases hq : zerosV zv.cells.toList n <;> simp_all
        rw [h0'] at g1
        have e0 : Array.range 0 = #[] := Array.toList_inj.1 (by simp)
        have g1' : Instr.fill (fun i => some (i * ei.size, ei.size)) ((Array.range 0).map fun i => (#[] : Array Value)[i % (#[] : Array Value).size]!) (ps.toList.map fun x => (x.1, ρ x.2)) = some us'.toArray := by
         rw [e0]; simpa using g1
        simp only [hz0, if_true, Sem.run_pure, Result.andThen_ok, g1', Sem.run_bind, q1]
       ·have hrange := range_map_zeros zv.cells.toList n ei.size hzs
        simp only [Array.toArray_toList] at hrange
        simp only [hz0, if_false, Sem.run_bind, z1, Sem.run_pure, Result.andThen_ok, hrange, g1, q1]
      ·simp at h
     ·simp at h
    ·simp at h
   ·simp at h
  ·simp at h
 ·simp at h
theorem allocA_raw (φ : Phi) (w : World) {t : TypeId} {v : AV} {s' : St} (h : allocA D s t = some (v, s')) :
  RawR φ s w v s' fun u w' => (Instr.alloc t true (.tuple #[])).run P w = .ok u w' := by
 unfold allocA at h
 split at h
 ·rename_i i hi
  split at h
  ·rename_i z hz
   simp at h
   obtain ⟨rfl, rfl⟩ := h
   obtain ⟨zv, z1, z2⟩ := run_zero hD hi hz w
   have hzc := (constAV_ok (φ := φ) z2).cells
   obtain ⟨w', g1, g2⟩ := cells_raw (P := P) w hzc t
   subst g2
   refine RawR.mk (CellsOR (e := t) hzc) (fun φ' hb => .ptr hb 0) ?_
   have g1' := g1
   simp only [Array.toArray_toList] at g1'
   simp [Instr.alloc, z1, newVar, g1']
  ·simp at h
 ·simp at h
theorem alloc_raw {o : Oper} (hk : kindOf D o.op = .alloc) {v : AV} {s' : St} (h : opA D T s o.op = some (.val v s')) (hr : Rel φ s1 w) (he : EvR φ T ρ) :
  RawR φ s w v s' fun u w' => (execOp ρ o).run P w = .ok (.value u) w' := by
 obtain ⟨dst, op, ty, pos, after, guard⟩ := o
 simp only at h hk
 cases op <;> simp only [opA] at h <;> first | (simp at h; done) | (unfold kindOf at hk; simp at hk; done) | skip
 case alloc t =>
  obtain ⟨v, s', hv, h⟩ := v2_ok h
  simp at h
  obtain ⟨rfl, rfl⟩ := h
  obtain ⟨ob, ro, u, g1, g2, g3, g4⟩ := allocA_raw hD φ w hv
  exact ⟨ob, ro, u, g1, g2, g3, by simp [execOp, g4]⟩
 case box t x =>
  obtain ⟨a, h1, h⟩ := ev1_ok h
  obtain ⟨v, s', hv, h⟩ := v2_ok h
  simp at h hv
  obtain ⟨rfl, rfl⟩ := h
  have hc := (ev_ok hr he h1).cells
  unfold boxA at hv
  simp at hv
  obtain ⟨rfl, rfl⟩ := hv
  obtain ⟨w', g1, g2⟩ := cells_raw (P := P) w hc t
  subst g2
  refine RawR.mk (CellsOR (e := t) hc) (fun φ' hb => .ptr hb 0) ?_
  have g1' := g1
  simp only [Array.toArray_toList] at g1'
  simp [execOp, Instr.box, newVar, g1']
 case buildSlice t n ps =>
  split at h
  ·rename_i vs hvs
   obtain ⟨v, s', hv, h⟩ := v2_ok h
   simp at h
   obtain ⟨rfl, rfl⟩ := h
   have hr' := evAll_ok hr he hvs
   obtain ⟨ob, ro, u, g1, g2, g3, g4⟩ := buildSliceA_raw (ρ := ρ) (ps := ps) hD w hr' (by simp) hv
   exact ⟨ob, ro, u, g1, g2, g3, by simp [execOp]; simp at g4; rw [g4]; rfl⟩
  ·simp at h
 case makeMap t r =>
  cases r with
  | some r => simp at h
  | none =>
   simp only at h
   obtain ⟨v, s', hv, h⟩ := v2_ok h
   simp at hv h
   obtain ⟨rfl, rfl⟩ := hv
   obtain ⟨rfl, rfl⟩ := h
   exact ⟨.map [] 0, .map #[] 0, .map (some w.heap.size), rfl, .map trivial, fun φ' hb => .map hb, by simp [execOp, Instr.makeMap]⟩
 case makeSlice t l c =>
  obtain ⟨a, b, h1, h2, h⟩ := ev2_ok h
  obtain ⟨v, s', hv, h⟩ := v2_ok h
  simp at h
  obtain ⟨rfl, rfl⟩ := h
  obtain ⟨ob, ro, u, g1, g2, g3, g4⟩ := makeSliceA_raw hD w (ev_ok hr he h1) (ev_ok hr he h2) hv
  exact ⟨ob, ro, u, g1, g2, g3, by simp [execOp, g4]⟩
 case convert => unfold kindOf at hk; simp only at hk; split at hk <;> simp at hk
 case binOp o t x y z => cases o <;> simp [kindOf] at hk
 case call c =>
  obtain ⟨callee, args, ats⟩ := c
  cases callee <;> simp only [kindOf] at hk <;> first | (simp at hk; done) | skip
  rename_i b
  cases b <;> simp at hk
end
end Go.Eng

namespace Go.Eng
variable {ops : Array Oper}
theorem bitOf_eq (m i : Nat) : bitOf m i = m.testBit i := by
 unfold bitOf
 rw [Nat.testBit_eq_decide_div_mod_eq]
 by_cases h : m / 2 ^ i % 2 = 1
 ·rw [h]; rfl
 ·simp only [h, decide_false]
  cases hb : Nat.beq (m / 2 ^ i % 2) 1
  ·rfl
  ·exact absurd (beq_true hb) h
theorem go_take : ∀ (l : List Oper) (acc : List Nat), (masks.go l acc).take acc.length = acc.reverse ∧ (masks.go l acc).length = acc.length + l.length
 | [], acc => by simp [masks.go, List.take_of_length_le]
 | o :: r, acc => by
  simp only [masks.go]
  obtain ⟨h1, h2⟩ := go_take r (masks.one o.after.toList acc 0 :: acc)
  refine ⟨?_, by rw [h2]; simp; omega⟩
  have := congrArg (List.take acc.length) h1
  rw [List.take_take] at this
  simpa using this
theorem go_get : ∀ (l : List Oper) (acc : List Nat) (k : Nat) (o : Oper), l[k]? = some o →
  (masks.go l acc)[acc.length + k]? = some (masks.one o.after.toList ((masks.go l acc).take (acc.length + k)).reverse 0)
 | [], acc, k, o, h => by simp at h
 | x :: r, acc, 0, o, h => by
  simp at h
  subst h
  simp only [masks.go, Nat.add_zero]
  obtain ⟨h1, h2⟩ := go_take r (masks.one x.after.toList acc 0 :: acc)
  have h3 : (masks.go r (masks.one x.after.toList acc 0 :: acc)).take acc.length = acc.reverse := by
   have := congrArg (List.take acc.length) h1
   rw [List.take_take] at this
   simpa using this
  rw [h3]
  simp only [List.reverse_reverse]
  have : ((masks.go r (masks.one x.after.toList acc 0 :: acc)).take (acc.length + 1))[acc.length]? = some (masks.one x.after.toList acc 0) := by
   have e : (masks.one x.after.toList acc 0 :: acc).length = acc.length + 1 := rfl
   rw [← e, h1]
   simp
  rw [List.getElem?_take] at this
  simpa using this
 | x :: r, acc, k + 1, o, h => by
  simp only [masks.go]
  have := go_get r (masks.one x.after.toList acc 0 :: acc) k o (by simpa using h)
  have e : (masks.one x.after.toList acc 0 :: acc).length + k = acc.length + (k + 1) := by simp; omega
  rw [e] at this
  exact this
theorem one_cases {j : Nat} : ∀ (es : List Edge) (acc : List Nat) (m : Nat), bitOf (masks.one es acc m) j = true →
  bitOf m j = true ∨ ∃ e, e ∈ es ∧ Region.binds .any e = true ∧ (e.on = j ∨ bitOf (acc[acc.length - 1 - e.on]?.getD 0) j = true)
 | [], acc, m, h => .inl h
 | e :: r, acc, m, h => by
  simp only [masks.one] at h
  split at h
  ·rcases one_cases r acc m h with h | ⟨e', h1, h2⟩
   ·exact .inl h
   ·exact .inr ⟨e', List.mem_cons_of_mem _ h1, h2⟩
  ·rcases one_cases r acc m h with h | ⟨e', h1, h2⟩
   ·exact .inl h
   ·exact .inr ⟨e', List.mem_cons_of_mem _ h1, h2⟩
  ·rename_i h1 h2
   have hb : Region.binds .any e = true := by
    unfold Region.binds
    split
    ·rename_i row hg; exact absurd hg (h1 row)
    ·rename_i row hg; exact absurd hg (h2 row)
    ·rfl
   rcases one_cases r acc _ h with h | ⟨e', h1, h2⟩
   ·rw [bitOf_eq] at h
    have h : (m ||| 2 ^ e.on ||| acc[acc.length - 1 - e.on]?.getD 0).testBit j = true := h
    rw [Nat.testBit_or, Nat.testBit_or, Nat.testBit_two_pow] at h
    simp only [Bool.or_eq_true, decide_eq_true_eq] at h
    rcases h with (h | h) | h
    ·exact .inl (by rw [bitOf_eq]; exact h)
    ·exact .inr ⟨e, List.mem_cons_self .., hb, .inl h⟩
    ·exact .inr ⟨e, List.mem_cons_self .., hb, .inr (by rw [bitOf_eq]; exact h)⟩
   ·exact .inr ⟨e', List.mem_cons_of_mem _ h1, h2⟩
def anc (ops : Array Oper) (i j : Nat) : Bool := bitOf ((masks ops.toList)[i]?.getD 0) j
def Fwd (ops : Array Oper) : Prop := ∀ (i : Nat) (o : Oper), ops[i]? = some o → ∀ e, e ∈ o.after → Region.binds .any e = true → e.on < i
theorem anc_cases (hf : Fwd ops) {i j : Nat} {o : Oper} (ho : ops[i]? = some o) (h : anc ops i j = true) : ∃ e, e ∈ o.after ∧ Region.binds .any e = true ∧ (e.on = j ∨ anc ops e.on j = true) := by
 have ho' : ops.toList[i]? = some o := by simpa using ho
 have hi : i < ops.size := (Array.getElem?_eq_some_iff.1 ho).1
 have := go_get ops.toList [] i o ho'
 simp only [List.length_nil, Nat.zero_add] at this
 have hm : (masks ops.toList)[i]? = some (masks.one o.after.toList ((masks ops.toList).take i).reverse 0) := this
 unfold anc at h
 rw [hm] at h
 rcases one_cases _ _ _ h with h | ⟨e, h1, h2, h3⟩
 ·rw [bitOf_eq] at h; simp at h
 ·have h1' : e ∈ o.after := by simpa using h1
  refine ⟨e, h1', h2, ?_⟩
  have hlt := hf i o ho e h1' h2
  rcases h3 with h3 | h3
  ·exact .inl h3
  ·refine .inr ?_
   have hlen : (masks ops.toList).length = ops.size := by
    have := (go_take ops.toList []).2
    simpa [masks] using this
   have hl2 : ((masks ops.toList).take i).reverse.length = i := by simp [hlen]; omega
   rw [hl2, List.getElem?_reverse (by simp [hlen]; omega)] at h3
   have e1 : ((masks ops.toList).take i).length - 1 - (i - 1 - e.on) = e.on := by simp [hlen]; omega
   rw [e1, List.getElem?_take, if_pos hlt] at h3
   exact h3
theorem anc_lt (hf : Fwd ops) : ∀ (i j : Nat) (o : Oper), ops[i]? = some o → anc ops i j = true → j < i := by
 intro i
 induction i using Nat.strongRecOn with
 | _ i ih =>
  intro j o ho h
  obtain ⟨e, h1, h2, h3⟩ := anc_cases hf ho h
  have hlt := hf i o ho e h1 h2
  rcases h3 with rfl | h3
  ·exact hlt
  ·have hi : i < ops.size := (Array.getElem?_eq_some_iff.1 ho).1
   exact Nat.lt_trans (ih e.on hlt j ops[e.on] (by simp [Nat.lt_trans hlt hi]) h3) hlt
def Closed (ops : Array Oper) (E : Nat → Prop) : Prop := ∀ i, E i → ∀ o, ops[i]? = some o → ∀ e, e ∈ o.after → Region.binds .any e = true → E e.on
theorem Closed.anc (hf : Fwd ops) {E : Nat → Prop} (hc : Closed ops E) : ∀ (i j : Nat) (o : Oper), ops[i]? = some o → E i → Eng.anc ops i j = true → E j := by
 intro i
 induction i using Nat.strongRecOn with
 | _ i ih =>
  intro j o ho hE h
  obtain ⟨e, h1, h2, h3⟩ := anc_cases hf ho h
  have hlt := hf i o ho e h1 h2
  have hEe := hc i hE o ho e h1 h2
  rcases h3 with rfl | h3
  ·exact hEe
  ·have hi : i < ops.size := (Array.getElem?_eq_some_iff.1 ho).1
   exact ih e.on hlt j ops[e.on] (by simp [Nat.lt_trans hlt hi]) hEe h3
theorem Closed.ready (hf : Fwd ops) {E : Nat → Prop} (hc : Closed ops E) {i : Nat} {o : Oper} (ho : ops[i]? = some o) (hr : ∀ e, e ∈ o.after → Region.binds .any e = true → E e.on) {j : Nat} (h : Eng.anc ops i j = true) : E j := by
 obtain ⟨e, h1, h2, h3⟩ := anc_cases hf ho h
 have hlt := hf i o ho e h1 h2
 have hi : i < ops.size := (Array.getElem?_eq_some_iff.1 ho).1
 rcases h3 with rfl | h3
 ·exact hr e h1 h2
 ·exact hc.anc hf e.on j ops[e.on] (by simp [Nat.lt_trans hlt hi]) (hr e h1 h2) h3
theorem memN_iff : ∀ {l : List Nat} {n : Nat}, memN l n = true ↔ n ∈ l
 | [], n => by simp [memN]
 | x :: r, n => by
  simp only [memN, Bool.or_eq_true, List.mem_cons, memN_iff (l := r)]
  constructor
  ·rintro (h | h)
   ·exact .inl (beq_true h).symm
   ·exact .inr h
  ·rintro (h | h)
   ·subst h; exact .inl (Nat.beq_refl _)
   ·exact .inr h
theorem against_ok {y : Oper} {m : Nat} : ∀ {acc : List (Nat × Oper)}, regOk.against ops y m acc = true → ∀ i x, (i, x) ∈ acc → bitOf m i = true ∨ regOk.apart ops x y = true
 | [], _, i, x, hm => by simp at hm
 | (i0, x0) :: r, h, i, x, hm => by
  simp only [regOk.against, Bool.and_eq_true, Bool.or_eq_true] at h
  rcases List.mem_cons.1 hm with hm | hm
  ·simp at hm
   obtain ⟨rfl, rfl⟩ := hm
   exact h.1
  ·exact against_ok h.2 i x hm
theorem regGo_ok : ∀ (l : List (Oper × Nat)) (j : Nat) (acc : List (Nat × Oper)), regOk.go ops j l acc = true → ∀ k y m, l[k]? = some (y, m) →
  (∀ i x, (i, x) ∈ acc → bitOf m i = true ∨ regOk.apart ops x y = true) ∧ (∀ k' x m', k' < k → l[k']? = some (x, m') → bitOf m (j + k') = true ∨ regOk.apart ops x y = true) ∧
   (∀ e, e ∈ y.after → Region.binds .any e = true → e.on < j + k)
 | [], j, acc, _, k, y, m, h => by simp at h
 | (y0, m0) :: r, j, acc, h, k, y, m, hk => by
  simp only [regOk.go, Bool.and_eq_true] at h
  cases k with
  | zero =>
   simp at hk
   obtain ⟨rfl, rfl⟩ := hk
   refine ⟨against_ok h.1.1, fun k' x m' hk' => by omega, fun e he hb => ?_⟩
   have h2 := h.1.2
   rw [Array.all_eq_true_iff_forall_mem] at h2
   have h3 := h2 e he
   unfold Region.binds at hb
   split at h3
   ·rename_i hg; rw [hg] at hb; simp at hb
   ·rename_i hg; rw [hg] at hb; simp at hb
   ·exact blt_true h3
  | succ k =>
   obtain ⟨g1, g2, g3⟩ := regGo_ok r (j + 1) ((j, y0) :: acc) h.2 k y m (by simpa using hk)
   refine ⟨fun i x hm => g1 i x (List.mem_cons_of_mem _ hm), fun k' x m' hk' hx => ?_, fun e he hb => by have := g3 e he hb; omega⟩
   cases k' with
   | zero =>
    simp at hx
    obtain ⟨rfl, rfl⟩ := hx
    exact g1 j y0 (List.mem_cons_self ..)
   | succ k' =>
    have := g2 k' x m' (by omega) (by simpa using hx)
    have e : j + 1 + k' = j + (k' + 1) := by omega
    rw [e] at this
    exact this
theorem zip_get {i : Nat} {o : Oper} (ho : ops[i]? = some o) : (ops.toList.zip (masks ops.toList))[i]? = some (o, (masks ops.toList)[i]?.getD 0) := by
 have hi : i < ops.size := (Array.getElem?_eq_some_iff.1 ho).1
 have hlen : (masks ops.toList).length = ops.size := by
  have := (go_take ops.toList []).2
  simpa [masks] using this
 have h1 : ops.toList[i]? = some o := by simpa using ho
 have h2 : (masks ops.toList)[i]? = some ((masks ops.toList)[i]'(by omega)) := List.getElem?_eq_getElem _
 have h3 : (ops.toList.zip (masks ops.toList))[i]? = some (o, (masks ops.toList)[i]'(by omega)) := List.getElem?_zip_eq_some.2 ⟨h1, h2⟩
 rw [h3, h2]
 rfl
structure RegR (ops : Array Oper) : Prop where
 fwd : Fwd ops
 look : ∀ i j x y t, ops[i]? = some x → ops[j]? = some y → y.dst = some t → t ∈ looksOf ops x → (i < j → anc ops j i = true) ∧ (j < i → anc ops i j = true)
 write : ∀ i j x y t, i < j → ops[i]? = some x → ops[j]? = some y → x.dst = some t → y.dst = some t → anc ops j i = true
theorem regOk_ok (h : regOk ops = true) : RegR ops := by
 unfold regOk at h
 have key : ∀ i j x y, i < j → ops[i]? = some x → ops[j]? = some y → anc ops j i = true ∨ regOk.apart ops x y = true := by
  intro i j x y hij hx hy
  have := (regGo_ok _ 0 [] h j y _ (zip_get hy)).2.1 i x _ hij (zip_get hx)
  simpa [anc] using this
 refine ⟨fun i o ho e he hb => ?_, fun i j x y t hx hy hd hl => ⟨fun hij => ?_, fun hji => ?_⟩, fun i j x y t hij hx hy hd hd' => ?_⟩
 ·have := (regGo_ok _ 0 [] h i o _ (zip_get ho)).2.2 e he hb
  simpa using this
 ·rcases key i j x y hij hx hy with h | h
  ·exact h
  ·simp only [regOk.apart, hd, Bool.and_eq_true, Bool.not_eq_true'] at h
   have := h.2
   rw [memN_iff.2 hl] at this
   simp at this
 ·rcases key j i y x hji hy hx with h | h
  ·exact h
  ·simp only [regOk.apart, hd, Bool.and_eq_true, Bool.not_eq_true'] at h
   have := h.1.1
   rw [memN_iff.2 hl] at this
   simp at this
 ·rcases key i j x y hij hx hy with h | h
  ·exact h
  ·simp only [regOk.apart, hd, hd', Bool.and_eq_true, Bool.not_eq_true'] at h
   have := h.1.2
   rw [Nat.beq_refl] at this
   simp at this
end Go.Eng

namespace Go.Eng
variable {P : Program} {D : Tab} {ops : Array Oper} {rec : Rec} {mg : Merge} {base n : Nat}
theorem bytesEq_data {x y : ByteArray} (h : bytesEq x.data.toList y.data.toList = true) : x = y := by
 have := bytesEq_iff.1 h
 cases x; cases y
 simp at this
 subst this
 rfl
theorem same1_ok {a b : AV} (h : same1 a b = true) : a = b := by
 unfold same1 at h
 split at h <;> (try simp only [Bool.and_eq_true, decide_eq_true_eq, beq_iff_eq, Bool.false_eq_true] at h)
 ·rw [h]
 ·rw [h.1, h.2]
 ·rw [bytesEq_data h]
 ·rfl
 ·rw [beq_true h.1, beq_true h.2]
 ·rfl
 ·obtain ⟨⟨⟨h1, h2⟩, h3⟩, h4⟩ := h
  rw [beq_true h1, beq_true h2, beq_true h3, beq_true h4]
 ·obtain ⟨⟨⟨⟨h1, h2⟩, h3⟩, h4⟩, h5⟩ := h
  rw [beq_true h1, beq_true h2, beq_true h3, beq_true h4, beq_true h5]
 ·rw [h]
 ·rw [beq_true h]
 ·rw [h.1, Tm.beq_eq h.2]
 ·rw [beq_true h.1.1.1, beq_true h.1.1.2, beq_true h.1.2, Tm.beq_eq h.2]
 ·rw [beq_true h.1.1.1, beq_true h.1.1.2, beq_true h.1.2, Tm.beq_eq h.2]
 ·rfl
 ·rw [beq_true h]
 ·rfl
 ·rfl
 ·rw [beq_true h]
 ·rw [beq_true h]
theorem sames_ok : ∀ {a b : List AV}, sames a b = true → a = b
 | [], [], _ => rfl
 | [], _ :: _, h => by simp [sames] at h
 | _ :: _, [], h => by simp [sames] at h
 | x :: a, y :: b, h => by
  simp only [sames, Bool.and_eq_true] at h
  rw [same1_ok h.1, sames_ok h.2]
theorem same_ok {a b : AV} (h : same a b = true) : a = b := by
 unfold same at h
 split at h
 ·rw [sames_ok h]
 ·rw [sames_ok h]
 ·exact same1_ok h
theorem cut_get {T : PT AV} : ∀ {l : List Nat} {t : Nat} {x : AV}, (cut T l).get t = some x → t ∈ l ∧ T.get t = some x
 | [], t, x, h => by simp [cut] at h
 | u :: r, t, x, h => by
  simp only [cut] at h
  split at h
  ·rename_i y hy
   rw [PT.get_set] at h
   by_cases e : t = u
   ·subst e
    simp at h
    subst h
    exact ⟨List.mem_cons_self .., hy⟩
   ·rw [if_neg e] at h
    obtain ⟨h1, h2⟩ := cut_get h
    exact ⟨List.mem_cons_of_mem _ h1, h2⟩
  ·obtain ⟨h1, h2⟩ := cut_get h
   exact ⟨List.mem_cons_of_mem _ h1, h2⟩
theorem readAt_ok {T : PT AV} {s : St} {op : Op} {v : AV} (h : readAt D T s op = some v) : ∃ s', opA D T s op = some (.val v s') := by
 unfold readAt at h
 split at h
 ·simp at h; subst h; exact ⟨_, by assumption⟩
 ·simp at h
inductive One (D : Tab) (rec : Rec) (mg : Merge) (ops : Array Oper) (base n i : Nat) (o : Oper) (m : Nat) (g : Rg) (T : PT AV) : Rg → Prop
 | skip (hg : guardOk T ops o = some false) : One D rec mg ops base n i o m g T { g with t := putA g.t n o.dst .undef }
 | pure (v : AV) (s' : St) (hg : guardOk T ops o = some true) (hk : kindOf D o.op = .pure) (h : opA D T g.s o.op = some (.val v s')) : One D rec mg ops base n i o m g T { g with t := putA g.t n o.dst v }
 | read (v : AV) (hg : guardOk T ops o = some true) (hk : kindOf D o.op = .read) (h : readAt D T { g.s with h := flush m g.pend g.s.h } o.op = some v) (hp : pastOk D T o.op m g.pend v g.past = true) :
   One D rec mg ops base n i o m g T { g with t := putA g.t n o.dst v, reads := (i, o.op, T, v) :: g.reads }
 | alloc (v : AV) (s' : St) (ob : AObj) (hg : guardOk T ops o = some true) (hk : kindOf D o.op = .alloc) (h : opA D T { g.s with nx := base + i } o.op = some (.val v s')) (ho : s'.h.get (base + i) = some ob) :
   One D rec mg ops base n i o m g T { g with t := putA g.t n o.dst v, pend := (i, base + i, ob) :: g.pend }
 | heavy (v : AV) (s' : St) (reads : List (Nat × Op × PT AV × AV)) (hg : guardOk T ops o = some true) (hk : kindOf D o.op = .heavy) (hp : allPast m g.past = true) (h : oper D rec mg T { g.s with h := flush m g.pend g.s.h } o.op = some [(v, s')])
   (hr : readsOk D (masks ops.toList) m (keep m g.pend) s' g.reads = some reads) : One D rec mg ops base n i o m g T { t := putA g.t n o.dst v, s := s', pend := keep m g.pend, past := (i, g.s) :: g.past, reads }
theorem drawOne_view {i : Nat} {o : Oper} {m : Nat} {g g' : Rg} {T : PT AV} (h : drawOne D rec mg ops (masks ops.toList) base n i o m g T = some g') : One D rec mg ops base n i o m g T g' := by
 unfold drawOne at h
 split at h
 ·simp at h
 ·rename_i hg; simp at h; subst h; exact .skip hg
 ·rename_i hg
  split at h
  ·rename_i hk
   split at h
   ·simp at h
   ·rename_i v hv
    obtain ⟨s', hv⟩ := readAt_ok hv
    simp at h; subst h; exact .pure v s' hg hk hv
  ·rename_i hk
   split at h
   ·simp at h
   ·rename_i v hv
    split at h
    ·rename_i hp; simp at h; subst h; exact .read v hg hk hv hp
    ·simp at h
  ·rename_i hk
   split at h
   ·rename_i v s' hv
    split at h
    ·rename_i ob hob; simp at h; subst h; exact .alloc v s' ob hg hk hv hob
    ·simp at h
   ·simp at h
  ·rename_i hk
   split at h
   ·rename_i hp
    split at h
    ·rename_i v s' hv
     split at h
     ·rename_i reads hr; simp at h; subst h; exact .heavy v s' reads hg hk hp hv hr
     ·simp at h
    ·simp at h
   ·simp at h
theorem drawOps_trace {ms : List Nat} : ∀ (l : List (Oper × Nat)) (i : Nat) (g g' : Rg), drawOps D rec mg ops ms base n i l g = some g' →
  ∃ gs : Nat → Rg, gs i = g ∧ gs (i + l.length) = g' ∧ ∀ k o m, l[k]? = some (o, m) → drawOne D rec mg ops ms base n (i + k) o m (gs (i + k)) (cut (gs (i + k)).t (looksOf ops o)) = some (gs (i + k + 1))
 | [], i, g, g', h => by
  simp [drawOps] at h
  subst h
  exact ⟨fun _ => g, rfl, rfl, by simp⟩
 | (o, m) :: r, i, g, g', h => by
  simp only [drawOps] at h
  split at h
  ·rename_i g1 h1
   obtain ⟨gs, e1, e2, e3⟩ := drawOps_trace r (i + 1) g1 g' h
   refine ⟨fun j => if j = i then g else gs j, by simp, ?_, ?_⟩
   ·have : i + (r.length + 1) ≠ i := by omega
    have e : i + (r.length + 1) = i + 1 + r.length := by omega
    simp only [List.length_cons, this, if_false]
    rw [e]; exact e2
   ·intro k o' m' hk
    cases k with
    | zero =>
     simp at hk
     obtain ⟨rfl, rfl⟩ := hk
     have : i + 0 + 1 ≠ i := by omega
     simp only [Nat.add_zero, if_true, this, if_false, e1]
     simpa using h1
    | succ k =>
     have a1 : i + (k + 1) ≠ i := by omega
     have a2 : i + (k + 1) + 1 ≠ i := by omega
     have := e3 k o' m' (by simpa using hk)
     have a3 : i + 1 + k = i + (k + 1) := by omega
     simp only [a1, a2, if_false]
     rw [a3] at this
     exact this
  ·simp at h
def Walk (D : Tab) (rec : Rec) (mg : Merge) (ops : Array Oper) (base n : Nat) (gs : Nat → Rg) : Prop :=
 ∀ i o, ops[i]? = some o → One D rec mg ops base n i o ((masks ops.toList)[i]?.getD 0) (gs i) (cut (gs i).t (looksOf ops o)) (gs (i + 1))
def hv (D : Tab) (ops : Array Oper) (gs : Nat → Rg) (i : Nat) : Prop := ∃ o, ops[i]? = some o ∧ guardOk (cut (gs i).t (looksOf ops o)) ops o = some true ∧ kindOf D o.op = .heavy
section
variable {gs : Nat → Rg} (hw : Walk D rec mg ops base n gs)
include hw
theorem walk_s {i : Nat} {o : Oper} (ho : ops[i]? = some o) (h : ¬ hv D ops gs i) : (gs (i + 1)).s = (gs i).s ∧ (gs (i + 1)).past = (gs i).past := by
 have := hw i o ho
 revert this
 generalize gs (i + 1) = g'
 intro this
 cases this with
 | heavy v s' reads hg hk hp hop hr => exact absurd ⟨o, ho, hg, hk⟩ h
 | _ => exact ⟨rfl, rfl⟩
theorem walk_s_range {p q : Nat} (hpq : p ≤ q) (hq : q ≤ ops.size) (h : ∀ k, p ≤ k → k < q → ¬ hv D ops gs k) : (gs q).s = (gs p).s := by
 induction q with
 | zero => have : p = 0 := by omega
           rw [this]
 | succ q ih =>
  by_cases e : p = q + 1
  ·rw [e]
  ·rw [(walk_s hw (o := ops[q]) (by simp [show q < ops.size by omega]) (h q (by omega) (by omega))).1]
   exact ih (by omega) (by omega) fun k h1 h2 => h k h1 (by omega)
theorem walk_t {i : Nat} {o : Oper} (ho : ops[i]? = some o) : ∃ v, (gs (i + 1)).t = putA (gs i).t n o.dst v := by
 have := hw i o ho
 revert this
 generalize gs (i + 1) = g'
 intro this
 cases this <;> exact ⟨_, rfl⟩
omit hw in
theorem putA_ne {T : PT AV} {n : Nat} {d : Option Tmp} {v : AV} {t : Nat} (h : d ≠ some t) : (putA T n d v).get t = T.get t := by
 unfold putA
 split
 ·rename_i d
  split
  ·rw [PT.get_set, if_neg (by rintro rfl; exact h rfl)]
  ·rfl
 ·rfl
theorem walk_t_range {t p q : Nat} (hpq : p ≤ q) (hq : q ≤ ops.size) (h : ∀ k o, p ≤ k → k < q → ops[k]? = some o → o.dst ≠ some t) : (gs q).t.get t = (gs p).t.get t := by
 induction q with
 | zero => have : p = 0 := by omega
           rw [this]
 | succ q ih =>
  by_cases e : p = q + 1
  ·rw [e]
  ·have ho : ops[q]? = some ops[q] := by simp [show q < ops.size by omega]
   obtain ⟨v, hv⟩ := walk_t hw ho
   rw [hv, putA_ne (h q _ (by omega) (by omega) ho)]
   exact ih (by omega) (by omega) fun k o h1 h2 => h k o h1 (by omega)
theorem walk_past (h0 : (gs 0).past = []) : ∀ (q : Nat), q ≤ ops.size → (∀ k s, (k, s) ∈ (gs q).past.head? → hv D ops gs k ∧ k < q ∧ ∀ k', k < k' → k' < q → ¬ hv D ops gs k') ∧ ((gs q).past = [] → ∀ k', k' < q → ¬ hv D ops gs k')
 | 0, _ => by simp [h0]
 | q + 1, hq => by
  obtain ⟨h1, h2⟩ := walk_past h0 q (by omega)
  have ho : ops[q]? = some ops[q] := by simp [show q < ops.size by omega]
  by_cases hh : hv D ops gs q
  ·obtain ⟨o, ho', hg, hk⟩ := hh
   have hone := hw q o ho'
   revert hone
   generalize hgg : gs (q + 1) = g'
   intro hone
   cases hone with
   | heavy v s' reads hg' hk' hp hop hr =>
    refine ⟨?_, by simp⟩
    intro k s hks
    simp at hks
    obtain ⟨rfl, rfl⟩ := hks
    exact ⟨⟨o, ho', hg, hk⟩, by omega, fun k' h3 h4 => by omega⟩
   | skip hg' => rw [hg] at hg'; simp at hg'
   | pure v s' hg' hk' => rw [hk] at hk'; simp at hk'
   | read v hg' hk' => rw [hk] at hk'; simp at hk'
   | alloc v s' ob hg' hk' => rw [hk] at hk'; simp at hk'
  ·rw [(walk_s hw ho hh).2]
   refine ⟨fun k s hks => ?_, fun hn k' hk' => ?_⟩
   ·obtain ⟨g1, g2, g3⟩ := h1 k s hks
    refine ⟨g1, by omega, fun k' h3 h4 => ?_⟩
    by_cases e : k' = q
    ·rw [e]; exact hh
    ·exact g3 k' h3 (by omega)
   ·by_cases e : k' = q
    ·rw [e]; exact hh
    ·exact h2 hn k' (by omega)
theorem walk_chain (h0 : (gs 0).past = []) {E : Nat → Prop} (hE : ∀ i j, hv D ops gs i → (E i) → anc ops i j = true → E j) : ∀ (i : Nat), hv D ops gs i → (∀ j, anc ops i j = true → E j) → ∀ j, j < i → hv D ops gs j → E j := by
 intro i
 induction i using Nat.strongRecOn with
 | _ i ih =>
  intro hi hanc j hj hhj
  obtain ⟨o, ho, hg, hk⟩ := hi
  have hsz : i < ops.size := (Array.getElem?_eq_some_iff.1 ho).1
  have hone := hw i o ho
  revert hone
  generalize hgg : gs (i + 1) = g'
  intro hone
  cases hone with
  | heavy v s' reads hg' hk' hp hop hr =>
   obtain ⟨h1, h2⟩ := walk_past hw h0 i (by omega)
   cases hpast : (gs i).past with
   | nil => exact absurd hhj (h2 hpast j hj)
   | cons x r =>
    obtain ⟨k, s⟩ := x
    rw [hpast] at hp
    obtain ⟨g1, g2, g3⟩ := h1 k s (by simp [hpast])
    have hkE : E k := hanc k hp
    rcases Nat.lt_trichotomy j k with h | h | h
    ·exact ih k g2 g1 (fun j' hj' => hE k j' g1 hkE hj') j h hhj
    ·rw [h]; exact hkE
    ·exact absurd hhj (g3 j h hj)
  | skip hg' => rw [hg] at hg'; simp at hg'
  | pure v s' hg' hk' => rw [hk] at hk'; simp at hk'
  | read v hg' hk' => rw [hk] at hk'; simp at hk'
  | alloc v s' ob hg' hk' => rw [hk] at hk'; simp at hk'
theorem past_read {T : PT AV} {op : Op} {m : Nat} {pend : List (Nat × Nat × AObj)} {v : AV} {p : Nat} : ∀ (q : Nat), q ≤ ops.size → p ≤ q → pastOk D T op m pend v (gs q).past = true → (∀ k, p ≤ k → k < q → hv D ops gs k → bitOf m k = false) →
  (∃ k, p ≤ k ∧ k < q ∧ hv D ops gs k) → ∃ u, readAt D T { (gs p).s with h := flush m pend (gs p).s.h } op = some u ∧ same u v = true
 | 0, _, _, _, _, h => by obtain ⟨k, h1, h2, _⟩ := h; omega
 | q + 1, hq, hpq, hp, hb, hex => by
  have ho : ops[q]? = some ops[q] := by simp [show q < ops.size by omega]
  have hpq' : p ≤ q := by obtain ⟨k, h1, h2, _⟩ := hex; omega
  by_cases hh : hv D ops gs q
  ·have hbq := hb q hpq' (by omega) hh
   obtain ⟨o, ho', hg, hk⟩ := hh
   have hone := hw q o ho'
   revert hone hp
   generalize hgg : gs (q + 1) = g'
   intro hp hone
   cases hone with
   | heavy v' s' reads hg' hk' hpp hop hr =>
    simp only [pastOk, hbq, Bool.false_eq_true, if_false, Bool.and_eq_true] at hp
    by_cases hex' : ∃ k, p ≤ k ∧ k < q ∧ hv D ops gs k
    ·exact past_read q (by omega) hpq' hp.2 (fun k h1 h2 => hb k h1 (by omega)) hex'
    ·have := walk_s_range hw hpq' (by omega) (fun k h1 h2 h3 => hex' ⟨k, h1, h2, h3⟩)
     rw [← this]
     have h1 := hp.1
     split at h1
     ·rename_i u hu; exact ⟨u, hu, h1⟩
     ·simp at h1
   | skip hg' => rw [hg] at hg'; simp at hg'
   | pure v s' hg' hk' => rw [hk] at hk'; simp at hk'
   | read v hg' hk' => rw [hk] at hk'; simp at hk'
   | alloc v s' ob hg' hk' => rw [hk] at hk'; simp at hk'
  ·rw [(walk_s hw ho hh).2] at hp
   refine past_read q (by omega) hpq' hp (fun k h1 h2 => hb k h1 (by omega)) ?_
   obtain ⟨k, h1, h2, h3⟩ := hex
   refine ⟨k, h1, ?_, h3⟩
   by_cases e : k = q
   ·rw [e] at h3; exact absurd h3 hh
   ·omega
omit hw in
theorem readsOk_mem {ms : List Nat} {m : Nat} {pend : List (Nat × Nat × AObj)} {s : St} {i : Nat} {op : Op} {T : PT AV} {v : AV} : ∀ {l l' : List (Nat × Op × PT AV × AV)}, readsOk D ms m pend s l = some l' → (i, op, T, v) ∈ l → bitOf m i = false →
  (i, op, T, v) ∈ l' ∧ ∃ u, readAt D T { s with h := flush (ms[i]?.getD 0) pend s.h } op = some u ∧ same u v = true
 | [], l', h, hm, hb => by simp at hm
 | (i0, op0, T0, v0) :: r, l', h, hm, hb => by
  simp only [readsOk] at h
  split at h
  ·rename_i hb0
   rcases List.mem_cons.1 hm with hm | hm
   ·simp at hm
    obtain ⟨rfl, rfl, rfl, rfl⟩ := hm
    rw [hb] at hb0; simp at hb0
   ·exact readsOk_mem h hm hb
  ·split at h
   ·rename_i u hu
    split at h
    ·rename_i hs
     split at h
     ·rename_i l2 hl2
      simp at h
      subst h
      rcases List.mem_cons.1 hm with hm | hm
      ·simp at hm
       obtain ⟨rfl, rfl, rfl, rfl⟩ := hm
       exact ⟨List.mem_cons_self .., u, hu, hs⟩
      ·obtain ⟨g1, g2⟩ := readsOk_mem hl2 hm hb
       exact ⟨List.mem_cons_of_mem _ g1, g2⟩
     ·simp at h
    ·simp at h
   ·simp at h
theorem next_read {i : Nat} {op : Op} {T : PT AV} {v : AV} : ∀ (q : Nat), i + 1 ≤ q → q ≤ ops.size → (i, op, T, v) ∈ (gs (i + 1)).reads → (∀ k, i < k → k < q → hv D ops gs k → anc ops k i = false) →
  (i, op, T, v) ∈ (gs q).reads ∧ ((∃ k, i < k ∧ k < q ∧ hv D ops gs k) → ∃ k, i < k ∧ k < q ∧ (gs (k + 1)).s = (gs q).s ∧ (∀ k', k < k' → k' < q → ¬ hv D ops gs k') ∧ ∃ u, readAt D T { (gs q).s with h := flush ((masks ops.toList)[i]?.getD 0) (gs (k + 1)).pend (gs q).s.h } op = some u ∧ same u v = true)
 | 0, h, _, _, _ => by omega
 | q + 1, hq1, hq, hm, hb => by
  by_cases e : i = q
  ·subst e
   exact ⟨hm, fun ⟨k, h1, h2, _⟩ => by omega⟩
  ·obtain ⟨g1, g2⟩ := next_read q (by omega) (by omega) hm fun k h1 h2 => hb k h1 (by omega)
   have ho : ops[q]? = some ops[q] := by simp [show q < ops.size by omega]
   have hone := hw q _ ho
   by_cases hh : hv D ops gs q
   ·have hbq := hb q (by omega) (by omega) hh
    obtain ⟨o, ho', hg, hk⟩ := hh
    rw [ho] at ho'
    simp at ho'
    subst ho'
    revert hone
    generalize hgg : gs (q + 1) = g'
    intro hone
    cases hone with
    | heavy v' s' reads hg' hk' hpp hop hr =>
     obtain ⟨q1, q2⟩ := readsOk_mem hr g1 hbq
     refine ⟨q1, fun _ => ⟨q, by omega, by omega, by rw [hgg], fun k' h1 h2 => by omega, ?_⟩⟩
     rw [hgg]
     exact q2
    | skip hg' => rw [hg] at hg'; simp at hg'
    | pure v s' hg' hk' => rw [hk] at hk'; simp at hk'
    | read v hg' hk' => rw [hk] at hk'; simp at hk'
    | alloc v s' ob hg' hk' => rw [hk] at hk'; simp at hk'
   ·have hs := (walk_s hw ho hh).1
    have hr' : (i, op, T, v) ∈ (gs (q + 1)).reads := by
     revert hone
     generalize gs (q + 1) = g'
     intro hone
     cases hone with
     | heavy v' s' reads hg' hk' => exact absurd ⟨_, ho, hg', hk'⟩ hh
     | read => exact List.mem_cons_of_mem _ g1
     | _ => exact g1
    refine ⟨hr', ?_⟩
    rintro ⟨k, h1, h2, h3⟩
    have hkq : k < q := by
     by_cases e : k = q
     ·rw [e] at h3; exact absurd h3 hh
     ·omega
    obtain ⟨k, a1, a2, a3, a4, a5⟩ := g2 ⟨k, h1, hkq, h3⟩
    rw [hs]
    refine ⟨k, a1, by omega, a3, fun k' h1 h2 => ?_, a5⟩
    by_cases e : k' = q
    ·rw [e]; exact hh
    ·exact a4 k' h1 (by omega)
def AllocAt (D : Tab) (ops : Array Oper) (gs : Nat → Rg) (base j : Nat) (ob : AObj) : Prop :=
 ∃ o v s', ops[j]? = some o ∧ guardOk (cut (gs j).t (looksOf ops o)) ops o = some true ∧ kindOf D o.op = .alloc ∧ opA D (cut (gs j).t (looksOf ops o)) { (gs j).s with nx := base + j } o.op = some (.val v s') ∧ s'.h.get (base + j) = some ob
omit hw in
theorem keep_mem {m : Nat} {x : Nat × Nat × AObj} : ∀ {l : List (Nat × Nat × AObj)}, x ∈ keep m l → x ∈ l ∧ bitOf m x.1 = false
 | [], h => by simp [keep] at h
 | (i, b, o) :: r, h => by
  simp only [keep] at h
  split at h
  ·obtain ⟨h1, h2⟩ := keep_mem h
   exact ⟨List.mem_cons_of_mem _ h1, h2⟩
  ·rename_i hb
   rcases List.mem_cons.1 h with rfl | h
   ·exact ⟨List.mem_cons_self .., by simpa using hb⟩
   ·obtain ⟨h1, h2⟩ := keep_mem h
    exact ⟨List.mem_cons_of_mem _ h1, h2⟩
theorem walk_pend (hf : Fwd ops) (h0 : (gs 0).pend = []) {j b : Nat} {ob : AObj} : ∀ (q : Nat), q ≤ ops.size → (j, b, ob) ∈ (gs q).pend → j < q ∧ b = base + j ∧ AllocAt D ops gs base j ob ∧ ∀ k, k < q → hv D ops gs k → anc ops k j = false
 | 0, _, h => by simp [h0] at h
 | q + 1, hq, h => by
  have ho : ops[q]? = some ops[q] := by simp [show q < ops.size by omega]
  have hone := hw q _ ho
  have hout : hv D ops gs q ∨ ¬ hv D ops gs q := Classical.em _
  have old : ∀ (_ : (j, b, ob) ∈ (gs q).pend), (hv D ops gs q → anc ops q j = false) → j < q + 1 ∧ b = base + j ∧ AllocAt D ops gs base j ob ∧ ∀ k, k < q + 1 → hv D ops gs k → anc ops k j = false := by
   intro hm hb
   obtain ⟨g1, g2, g3, g4⟩ := walk_pend hf h0 q (by omega) hm
   refine ⟨by omega, g2, g3, fun k hk hh => ?_⟩
   by_cases e : k = q
   ·rw [e] at hh ⊢; exact hb hh
   ·exact g4 k (by omega) hh
  revert hone h
  generalize gs (q + 1) = g'
  intro h hone
  cases hone with
  | heavy v' s' reads hg' hk' hpp hop hr =>
   obtain ⟨h1, h2⟩ := keep_mem h
   exact old h1 fun _ => h2
  | alloc v s' ob' hg' hk' hop hob =>
   rcases List.mem_cons.1 h with h | h
   ·simp at h
    obtain ⟨rfl, rfl, rfl⟩ := h
    refine ⟨by omega, rfl, ⟨_, v, s', ho, hg', hk', hop, hob⟩, fun k hk hh => ?_⟩
    cases hb : anc ops k j with
    | false => rfl
    | true =>
     have := anc_lt hf k j ops[k] (by simp [show k < ops.size by omega]) hb
     omega
   ·refine old h fun hh => ?_
    obtain ⟨o, ho', hg, hk⟩ := hh
    rw [ho] at ho'
    simp at ho'
    subst ho'
    rw [hk] at hk'; simp at hk'
  | skip hg' =>
   refine old h fun hh => ?_
   obtain ⟨o, ho', hg, hk⟩ := hh
   rw [ho] at ho'; simp at ho'; subst ho'
   rw [hg] at hg'; simp at hg'
  | pure v s' hg' hk' =>
   refine old h fun hh => ?_
   obtain ⟨o, ho', hg, hk⟩ := hh
   rw [ho] at ho'; simp at ho'; subst ho'
   rw [hk] at hk'; simp at hk'
  | read v hg' hk' =>
   refine old h fun hh => ?_
   obtain ⟨o, ho', hg, hk⟩ := hh
   rw [ho] at ho'; simp at ho'; subst ho'
   rw [hk] at hk'; simp at hk'
end
end Go.Eng

namespace Go.Eng
variable {P : Program} {D : Tab} {ops : Array Oper} {rec : Rec} {mg : Merge} {base n : Nat} {gs : Nat → Rg}
theorem Rel.more {φ : Phi} {s : St} {w : World} (hr : Rel φ s w) {Q : Nat → AObj → Prop} {h' : PT AObj} (H : ∀ b o, h'.get b = some o → s.h.get b = some o ∨ Q b o)
  (hQ : ∀ b o, Q b o → ∃ r ro, φ.blk b = some (r, 0) ∧ w.heap[r]? = some ro ∧ OR φ 0 o ro ∧ ∀ b' sh, (s.h.get b').isSome = true → φ.blk b' ≠ some (r, sh))
  (dist : ∀ b o b' o' r, Q b o → Q b' o' → φ.blk b = some (r, 0) → φ.blk b' = some (r, 0) → b = b') : Rel φ { s with h := h' } w := by
 refine ⟨fun b o hb => ?_, fun b b' r sh sh' hb hb' h1 h2 => ?_, hr.fresh, hr.freshc, hr.glob, hr.gnx, hr.facts⟩
 ·rcases H b o hb with h | h
  ·exact hr.obj b o h
  ·obtain ⟨r, ro, g1, g2, g3, _⟩ := hQ b o h
   exact .inr ⟨r, 0, ro, g1, g2, g3⟩
 ·obtain ⟨o, ho⟩ := Option.isSome_iff_exists.1 hb
  obtain ⟨o', ho'⟩ := Option.isSome_iff_exists.1 hb'
  rcases H b o ho with h | h
  ·rcases H b' o' ho' with h' | h'
   ·exact hr.inj b b' r sh sh' (by simp [h]) (by simp [h']) h1 h2
   ·obtain ⟨r', ro, g1, g2, g3, g4⟩ := hQ b' o' h'
    rw [h2] at g1
    simp at g1
    obtain ⟨rfl, rfl⟩ := g1
    exact absurd h1 (g4 b sh (by simp [h]))
  ·obtain ⟨r', ro, g1, g2, g3, g4⟩ := hQ b o h
   rw [h1] at g1
   simp at g1
   obtain ⟨rfl, rfl⟩ := g1
   rcases H b' o' ho' with h' | h'
   ·exact absurd h2 (g4 b' sh' (by simp [h']))
   ·obtain ⟨r', ro', q1, q2, q3, q4⟩ := hQ b' o' h'
    rw [h2] at q1
    simp at q1
    obtain ⟨rfl, rfl⟩ := q1
    exact dist b o b' o' r h h' h1 h2
theorem Stp.more {φ0 φ : Phi} {s0 s : St} {w0 w : World} (hs : Stp φ0 s0 w0 φ s w) {Q : Nat → AObj → Prop} {h' : PT AObj} (H : ∀ b o, h'.get b = some o → s.h.get b = some o ∨ Q b o)
  (hQ : ∀ b o, Q b o → ∃ r, φ.blk b = some (r, 0) ∧ w0.heap.size ≤ r) : Stp φ0 s0 w0 φ { s with h := h' } w := by
 refine ⟨hs.ext, fun b r sh hb h1 => ?_, fun b r sh hb h1 => ?_, hs.keep, hs.size, hs.os, hs.out, hs.tape, hs.nx, hs.nc, hs.old, hs.shape, hs.dr⟩
 obtain ⟨o, ho⟩ := Option.isSome_iff_exists.1 hb
 rcases H b o ho with h | h
 ·exact hs.own b r sh (by simp [h]) h1
 ·obtain ⟨r', g1, g2⟩ := hQ b o h
  rw [h1] at g1
  simp at g1
  obtain ⟨rfl, rfl⟩ := g1
  exact .inl g2
 obtain ⟨o, ho⟩ := Option.isSome_iff_exists.1 (ownB.some hb)
 rcases H b o ho with h | h
 ·exact hs.owb b r sh (by rw [ownB.eq (h := s.h) (h' := h') (b := b) (c := b) (by rw [ho, h])] at hb; exact hb) h1
 ·obtain ⟨r', g1, g2⟩ := hQ b o h
  rw [h1] at g1
  simp at g1
  obtain ⟨rfl, rfl⟩ := g1
  exact .inl g2
theorem flush_get {m : Nat} {b : Nat} {o : AObj} : ∀ {l : List (Nat × Nat × AObj)} {h : PT AObj}, (flush m l h).get b = some o → h.get b = some o ∨ ∃ j, (j, b, o) ∈ l ∧ bitOf m j = true
 | [], h, hb => .inl hb
 | (i, b0, o0) :: r, h, hb => by
  simp only [flush] at hb
  split at hb
  ·rename_i hbit
   rcases flush_get hb with h1 | ⟨j, h1, h2⟩
   ·rw [PT.get_set] at h1
    by_cases e : b = b0
    ·subst e
     simp at h1
     subst h1
     exact .inr ⟨i, List.mem_cons_self .., hbit⟩
    ·rw [if_neg e] at h1
     exact .inl h1
   ·exact .inr ⟨j, List.mem_cons_of_mem _ h1, h2⟩
  ·rcases flush_get hb with h1 | ⟨j, h1, h2⟩
   ·exact .inl h1
   ·exact .inr ⟨j, List.mem_cons_of_mem _ h1, h2⟩
theorem flush_old {m : Nat} {b : Nat} : ∀ {l : List (Nat × Nat × AObj)} {h : PT AObj}, (∀ j o, (j, b, o) ∈ l → bitOf m j = false) → (flush m l h).get b = h.get b
 | [], h, _ => rfl
 | (i, b0, o0) :: r, h, hn => by
  simp only [flush]
  split
  ·rename_i hbit
   rw [flush_old fun j o hm => hn j o (List.mem_cons_of_mem _ hm), PT.get_set]
   rw [if_neg]
   rintro rfl
   have := hn i o0 (List.mem_cons_self ..)
   rw [hbit] at this
   simp at this
  ·exact flush_old fun j o hm => hn j o (List.mem_cons_of_mem _ hm)
theorem flushAll_get {b : Nat} {o : AObj} : ∀ {l : List (Nat × Nat × AObj)} {h : PT AObj}, (flushAll l h).get b = some o → h.get b = some o ∨ ∃ j, (j, b, o) ∈ l
 | [], h, hb => .inl hb
 | (i, b0, o0) :: r, h, hb => by
  simp only [flushAll] at hb
  rcases flushAll_get hb with h1 | ⟨j, h1⟩
  ·rw [PT.get_set] at h1
   by_cases e : b = b0
   ·subst e
    simp at h1
    subst h1
    exact .inr ⟨i, List.mem_cons_self ..⟩
   ·rw [if_neg e] at h1
    exact .inl h1
  ·exact .inr ⟨j, List.mem_cons_of_mem _ h1⟩
theorem AllocAt.unique {j : Nat} {ob ob' : AObj} (h : AllocAt D ops gs base j ob) (h' : AllocAt D ops gs base j ob') : ob = ob' := by
 obtain ⟨o, v, s', h1, h2, h3, h4, h5⟩ := h
 obtain ⟨o', v', s'', g1, g2, g3, g4, g5⟩ := h'
 rw [h1] at g1
 simp at g1
 subst g1
 rw [h4] at g4
 simp at g4
 obtain ⟨rfl, rfl⟩ := g4
 rw [h5] at g5
 simpa using g5
def Pend (D : Tab) (ops : Array Oper) (gs : Nat → Rg) (base : Nat) (E : Nat → Prop) (p j : Nat) (ob : AObj) : Prop := E j ∧ AllocAt D ops gs base j ob ∧ ∀ k, k < p → hv D ops gs k → anc ops k j = false
structure HeapInv (D : Tab) (ops : Array Oper) (gs : Nat → Rg) (base : Nat) (φ0 : Phi) (s0 : St) (w0 : World) (E : Nat → Prop) (p : Nat) (φ : Phi) (w : World) : Prop where
 rel : Rel φ (gs p).s w
 stp : Stp φ0 s0 w0 φ (gs p).s w
 nx : base + ops.size ≤ (gs p).s.nx
 pend : ∀ j ob, Pend D ops gs base E p j ob → ∃ r ro, φ.blk (base + j) = some (r, 0) ∧ w0.heap.size ≤ r ∧ w.heap[r]? = some ro ∧ OR φ 0 ob ro ∧ ∀ b sh, ((gs p).s.h.get b).isSome = true → φ.blk b ≠ some (r, sh)
 dist : ∀ j ob j' ob' r, Pend D ops gs base E p j ob → Pend D ops gs base E p j' ob' → φ.blk (base + j) = some (r, 0) → φ.blk (base + j') = some (r, 0) → j = j'
 fresh : ∀ j, j < ops.size → ¬ E j → φ.blk (base + j) = none
section
variable {φ0 φ : Phi} {s0 : St} {w0 w : World} {E : Nat → Prop} {p : Nat}
theorem HeapInv.move (h : HeapInv D ops gs base φ0 s0 w0 E p φ w) {q : Nat} (hs : (gs q).s = (gs p).s) (hk : ∀ k, hv D ops gs k → (k < p ↔ k < q)) : HeapInv D ops gs base φ0 s0 w0 E q φ w := by
 have hp : ∀ j ob, Pend D ops gs base E q j ob → Pend D ops gs base E p j ob := fun j ob ⟨h1, h2, h3⟩ => ⟨h1, h2, fun k hkp hh => h3 k ((hk k hh).1 hkp) hh⟩
 refine ⟨by rw [hs]; exact h.rel, by rw [hs]; exact h.stp, by rw [hs]; exact h.nx, fun j ob hj => ?_, fun j ob j' ob' r hj hj' => h.dist j ob j' ob' r (hp _ _ hj) (hp _ _ hj'), h.fresh⟩
 rw [hs]
 exact h.pend j ob (hp _ _ hj)
theorem HeapInv.flush (h : HeapInv D ops gs base φ0 s0 w0 E p φ w) {h' : PT AObj} (H : ∀ b o, h'.get b = some o → (gs p).s.h.get b = some o ∨ ∃ j, b = base + j ∧ Pend D ops gs base E p j o) :
  Rel φ { (gs p).s with h := h' } w ∧ Stp φ0 s0 w0 φ { (gs p).s with h := h' } w ∧
   ∀ j ob r, Pend D ops gs base E p j ob → φ.blk (base + j) = some (r, 0) → h'.get (base + j) = some ob ∨ ∀ b sh, (h'.get b).isSome = true → φ.blk b ≠ some (r, sh) := by
 refine ⟨h.rel.more H ?_ ?_, h.stp.more H ?_, ?_⟩
 ·rintro b o ⟨j, rfl, hj⟩
  obtain ⟨r, ro, g1, g2, g3, g4, g5⟩ := h.pend j o hj
  exact ⟨r, ro, g1, g3, g4, g5⟩
 ·rintro b o b' o' r ⟨j, rfl, hj⟩ ⟨j', rfl, hj'⟩ h1 h2
  rw [h.dist j o j' o' r hj hj' h1 h2]
 ·rintro b o ⟨j, rfl, hj⟩
  obtain ⟨r, ro, g1, g2, g3, g4, g5⟩ := h.pend j o hj
  exact ⟨r, g1, g2⟩
 ·intro j ob r hj hr
  obtain ⟨r', ro, g1, g2, g3, g4, g5⟩ := h.pend j ob hj
  rw [hr] at g1
  simp at g1
  subst g1
  have hnone : (gs p).s.h.get (base + j) = none := by
   cases hx : (gs p).s.h.get (base + j) with
   | none => rfl
   | some x => exact absurd hr (g5 (base + j) 0 (by simp [hx]))
  cases hx : h'.get (base + j) with
  | some o' =>
   left
   rcases H _ _ hx with h1 | ⟨j', h1, h2⟩
   ·rw [hnone] at h1; simp at h1
   ·have : j' = j := by omega
    subst this
    rw [h2.2.1.unique hj.2.1]
  | none =>
   right
   intro b sh hb hbr
   obtain ⟨o', ho'⟩ := Option.isSome_iff_exists.1 hb
   rcases H _ _ ho' with h1 | ⟨j', rfl, h2⟩
   ·exact g5 b sh (by simp [h1]) hbr
   ·obtain ⟨r', ro', q1, q2, q3, q4, q5⟩ := h.pend j' o' h2
    rw [hbr] at q1
    simp at q1
    obtain ⟨rfl, rfl⟩ := q1
    have := h.dist j ob j' o' r hj h2 hr hbr
    subst this
    rw [hx] at ho'
    simp at ho'
theorem HeapInv.quiet (h : HeapInv D ops gs base φ0 s0 w0 E p φ w) {h' : PT AObj} (H : ∀ b o, h'.get b = some o → (gs p).s.h.get b = some o ∨ ∃ j, b = base + j ∧ Pend D ops gs base E p j o)
  (Hold : ∀ b o, (gs p).s.h.get b = some o → h'.get b = some o) {φ' : Phi} {w' : World} (hs : Stp φ { (gs p).s with h := h' } w φ' { (gs p).s with h := h' } w') (hr : Rel φ' { (gs p).s with h := h' } w') :
  HeapInv D ops gs base φ0 s0 w0 E p φ' w' := by
 obtain ⟨f1, f2, f3⟩ := h.flush H
 have hold' : ∀ b r sh, ((gs p).s.h.get b).isSome = true → φ'.blk b = some (r, sh) → φ.blk b = some (r, sh) := by
  intro b r sh hb hbr
  have := h.rel.dom_lt hb
  rw [hs.old b this] at hbr
  exact hbr
 have hblk : ∀ j, j < ops.size → φ'.blk (base + j) = φ.blk (base + j) := fun j hj => hs.old _ (by have := h.nx; simp only; omega)
 have hjlt : ∀ j ob, Pend D ops gs base E p j ob → j < ops.size := by
  rintro j ob ⟨_, ⟨o, v, s', h1, _⟩, _⟩
  exact (Array.getElem?_eq_some_iff.1 h1).1
 have hl := hr.less (h' := (gs p).s.h) Hold
 refine ⟨hl.1, (f2.trans hs).trans hl.2, h.nx, fun j ob hj => ?_, fun j ob j' ob' r hj hj' h1 h2 => ?_, fun j hj hE => ?_⟩
 ·obtain ⟨r, ro, g1, g2, g3, g4, g5⟩ := h.pend j ob hj
  have g5' : ∀ b sh, ((gs p).s.h.get b).isSome = true → φ'.blk b ≠ some (r, sh) := fun b sh hb hbr => g5 b sh hb (hold' b r sh hb hbr)
  rcases f3 j ob r hj g1 with h1 | h1
  ·obtain ⟨ro', q2, q3⟩ := hr.objS h1 (hs.ext.blk _ _ g1)
   exact ⟨r, ro', hs.ext.blk _ _ g1, g2, q2, q3, g5'⟩
  ·refine ⟨r, ro, hs.ext.blk _ _ g1, g2, ?_, g4.mono hs.ext, g5'⟩
   rw [hs.keep r (Array.getElem?_eq_some_iff.1 g3).1 (fun b sh hb => h1 b sh (ownB.some hb))]
   exact g3
 ·rw [hblk j (hjlt j ob hj)] at h1
  rw [hblk j' (hjlt j' ob' hj')] at h2
  exact h.dist j ob j' ob' r hj hj' h1 h2
 ·rw [hblk j hj]
  exact h.fresh j hj hE
theorem HeapInv.change (h : HeapInv D ops gs base φ0 s0 w0 E p φ w) {h' : PT AObj} (H : ∀ b o, h'.get b = some o → (gs p).s.h.get b = some o ∨ ∃ j, b = base + j ∧ Pend D ops gs base E p j o)
  {φ' : Phi} {w' : World} {q : Nat} (hs : Stp φ { (gs p).s with h := h' } w φ' (gs q).s w') (hr : Rel φ' (gs q).s w') {E' : Nat → Prop} (hE : ∀ j, E j → E' j)
  (Hp : ∀ j ob, Pend D ops gs base E' q j ob → Pend D ops gs base E p j ob ∧ h'.get (base + j) = none) : HeapInv D ops gs base φ0 s0 w0 E' q φ' w' := by
 obtain ⟨f1, f2, f3⟩ := h.flush H
 have hblk : ∀ j, j < ops.size → φ'.blk (base + j) = φ.blk (base + j) := fun j hj => hs.old _ (by have := h.nx; simp only; omega)
 have hjlt : ∀ j ob, Pend D ops gs base E p j ob → j < ops.size := by
  rintro j ob ⟨_, ⟨o, v, s', h1, _⟩, _⟩
  exact (Array.getElem?_eq_some_iff.1 h1).1
 refine ⟨hr, f2.trans hs, Nat.le_trans h.nx hs.nx, fun j ob hj => ?_, fun j ob j' ob' r hj hj' h1 h2 => ?_, fun j hj hE' => ?_⟩
 ·obtain ⟨hj, hn⟩ := Hp j ob hj
  obtain ⟨r, ro, g1, g2, g3, g4, g5⟩ := h.pend j ob hj
  have hlt := (Array.getElem?_eq_some_iff.1 g3).1
  rcases f3 j ob r hj g1 with h1 | h1
  ·rw [hn] at h1; simp at h1
  ·refine ⟨r, ro, hs.ext.blk _ _ g1, g2, ?_, g4.mono hs.ext, fun b sh hb hbr => ?_⟩
   ·rw [hs.keep r hlt (fun b sh hb => h1 b sh (ownB.some hb))]
    exact g3
   ·rcases hs.own b r sh hb hbr with h2 | ⟨b0, sh0, h2, h3⟩
    ·omega
    ·exact h1 b0 sh0 h2 h3
 ·obtain ⟨hj, _⟩ := Hp j ob hj
  obtain ⟨hj', _⟩ := Hp j' ob' hj'
  rw [hblk j (hjlt j ob hj)] at h1
  rw [hblk j' (hjlt j' ob' hj')] at h2
  exact h.dist j ob j' ob' r hj hj' h1 h2
 ·rw [hblk j hj]
  exact h.fresh j hj fun h => hE' (hE j h)
theorem HeapInv.made (h : HeapInv D ops gs base φ0 s0 w0 E p φ w) {i : Nat} (hi : i < ops.size) (hiE : ¬ E i) {ob : AObj} {ro : Obj} (ha : AllocAt D ops gs base i ob) (ho : OR φ 0 ob ro) (hbase : s0.nx ≤ base ∧ GB ≤ base) {E' : Nat → Prop} (hE : ∀ j, E' j ↔ j = i ∨ E j) :
  HeapInv D ops gs base φ0 s0 w0 E' p (φ.setB (base + i) (w.heap.size, 0)) { w with heap := w.heap.push ro } ∧ φ.le (φ.setB (base + i) (w.heap.size, 0)) := by
 obtain ⟨hbase, hGBb⟩ := hbase
 have hnone := h.fresh i hi hiE
 have hle : φ.le (φ.setB (base + i) (w.heap.size, 0)) := Phi.le_setB hnone
 have hnot : (gs p).s.h.get (base + i) = none := by
  cases hx : (gs p).s.h.get (base + i) with
  | none => rfl
  | some x =>
   rcases h.rel.obj _ x hx with hv | ⟨r, sh, ro, h1, _⟩
   ·have := hv.lt; omega
   ·rw [hnone] at h1; simp at h1
 have hne : ∀ b, b ≠ base + i → (φ.setB (base + i) (w.heap.size, 0)).blk b = φ.blk b := fun b hb => by simp [Phi.setB, hb]
 have heq : (φ.setB (base + i) (w.heap.size, 0)).blk (base + i) = some (w.heap.size, 0) := by simp [Phi.setB]
 have hdom : ∀ b, ((gs p).s.h.get b).isSome = true → b ≠ base + i := by
  rintro b hb rfl
  rw [hnot] at hb; simp at hb
 have hold : ∀ r, r < w.heap.size → (w.heap.push ro)[r]? = w.heap[r]? := fun r hr => by simp [Array.getElem?_push, Nat.ne_of_lt hr]
 have hG : ¬ base + i < GG := fun hc => by rw [h.rel.glob _ hc] at hnone; simp at hnone
 have hPend : ∀ j ob', Pend D ops gs base E' p j ob' → j = i ∨ Pend D ops gs base E p j ob' := by
  rintro j ob' ⟨h1, h2, h3⟩
  rcases (hE j).1 h1 with h1 | h1
  ·exact .inl h1
  ·exact .inr ⟨h1, h2, h3⟩
 have hlt : ∀ j ob', Pend D ops gs base E p j ob' → j ≠ i := by
  rintro j ob' ⟨h1, _, _⟩ rfl
  exact hiE h1
 refine ⟨⟨⟨?_, ?_, ?_, h.rel.freshc, ?_, h.rel.gnx, h.rel.facts⟩, ⟨h.stp.ext.trans hle, ?_, ?_, ?_, ?_, h.stp.os, h.stp.out, h.stp.tape, h.stp.nx, h.stp.nc, ?_, ?_, h.stp.dr⟩, h.nx, ?_, ?_, ?_⟩, hle⟩
 ·intro b o hb
  rcases h.rel.obj b o hb with hv | ⟨r, sh, ro', h1, h2, h3⟩
  ·exact .inl (hv.mono hle.env (by rw [hne b (hdom b (by simp [hb]))]; exact hv.none))
  refine .inr ⟨r, sh, ro', by rw [hne b (hdom b (by simp [hb]))]; exact h1, ?_, h3.mono hle⟩
  simp only [hold r (Array.getElem?_eq_some_iff.1 h2).1]
  exact h2
 ·intro b b' r sh sh' hb hb' h1 h2
  rw [hne b (hdom b hb)] at h1
  rw [hne b' (hdom b' hb')] at h2
  exact h.rel.inj b b' r sh sh' hb hb' h1 h2
 ·intro b hb
  rw [hne b (by have := h.nx; omega)]
  exact h.rel.fresh b hb
 ·intro g hg
  rw [hne g (by rintro rfl; exact hG hg)]
  exact h.rel.glob g hg
 ·intro b r sh hb h1
  rw [hne b (hdom b hb)] at h1
  exact h.stp.own b r sh hb h1
 ·intro b r sh hb h1
  rw [hne b (hdom b (ownB.some hb))] at h1
  exact h.stp.owb b r sh hb h1
 ·intro r hr hn
  have := h.stp.keep r hr hn
  simp only [hold r (Nat.lt_of_lt_of_le hr h.stp.size)]
  exact this
 ·have := h.stp.size
  simp; omega
 ·intro b hb
  rw [hne b (by omega)]
  exact h.stp.old b hb
 ·intro r arr e fz hr
  obtain ⟨arr', fz', h1, h2⟩ := h.stp.shape r arr e fz hr
  have hlt := (Array.getElem?_eq_some_iff.1 h1).1
  exact ⟨arr', fz', by rw [hold r hlt]; exact h1, h2⟩
 ·intro j ob' hj
  rcases hPend j ob' hj with rfl | hj'
  ·have := hj.2.1.unique ha
   subst this
   refine ⟨w.heap.size, ro, heq, h.stp.size, by simp, ho.mono hle, fun b sh hb hbr => ?_⟩
   rw [hne b (hdom b hb)] at hbr
   obtain ⟨o, ho'⟩ := Option.isSome_iff_exists.1 hb
   obtain ⟨ro', h2, h3⟩ := h.rel.objS ho' hbr
   have := (Array.getElem?_eq_some_iff.1 h2).1
   omega
  ·obtain ⟨r, ro', g1, g2, g3, g4, g5⟩ := h.pend j ob' hj'
   refine ⟨r, ro', hle.blk _ _ g1, g2, ?_, g4.mono hle, fun b sh hb hbr => ?_⟩
   ·simp only [hold r (Array.getElem?_eq_some_iff.1 g3).1]
    exact g3
   ·rw [hne b (hdom b hb)] at hbr
    exact g5 b sh hb hbr
 ·intro j o1 j' o2 r hj hj' h1 h2
  rcases hPend j o1 hj with rfl | hj
  ·rcases hPend j' o2 hj' with rfl | hj'
   ·rfl
   ·rw [heq] at h1
    rw [hne _ (by have := hlt j' o2 hj'; omega)] at h2
    obtain ⟨r', ro', g1, g2, g3, g4, g5⟩ := h.pend j' o2 hj'
    rw [h2] at g1
    simp at g1 h1
    have := (Array.getElem?_eq_some_iff.1 g3).1
    omega
  ·rcases hPend j' o2 hj' with rfl | hj'
   ·rw [heq] at h2
    rw [hne _ (by have := hlt j o1 hj; omega)] at h1
    obtain ⟨r', ro', g1, g2, g3, g4, g5⟩ := h.pend j o1 hj
    rw [h1] at g1
    simp at g1 h2
    have := (Array.getElem?_eq_some_iff.1 g3).1
    omega
   ·rw [hne _ (by have := hlt j o1 hj; omega)] at h1
    rw [hne _ (by have := hlt j' o2 hj'; omega)] at h2
    exact h.dist j o1 j' o2 r hj hj' h1 h2
 ·intro j hj hE'
  have h1 : j ≠ i := fun e => hE' ((hE j).2 (.inl e))
  rw [hne _ (by omega)]
  exact h.fresh j hj fun h => hE' ((hE j).2 (.inr h))
theorem HeapInv.grow (h : HeapInv D ops gs base φ0 s0 w0 E p φ w) {E' : Nat → Prop} {i : Nat} (hE : ∀ j, E' j ↔ j = i ∨ E j) (hn : ∀ ob, ¬ AllocAt D ops gs base i ob) : HeapInv D ops gs base φ0 s0 w0 E' p φ w := by
 have hP : ∀ j ob, Pend D ops gs base E' p j ob → Pend D ops gs base E p j ob := by
  rintro j ob ⟨h1, h2, h3⟩
  rcases (hE j).1 h1 with rfl | h1
  ·exact absurd h2 (hn ob)
  ·exact ⟨h1, h2, h3⟩
 exact ⟨h.rel, h.stp, h.nx, fun j ob hj => h.pend j ob (hP j ob hj), fun j ob j' ob' r hj hj' => h.dist j ob j' ob' r (hP _ _ hj) (hP _ _ hj'), fun j hj hE' => h.fresh j hj fun h => hE' ((hE j).2 (.inr h))⟩
end
end Go.Eng

