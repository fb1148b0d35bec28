/-
  What pieces of code come to, by what holds behind them.
  Regions that draw: the walk in the order of the text, its heavy operations by what holds behind them.
  What is to be shown of a piece of code, laid open operation by operation.
  What is to be shown of an operation.
-/
import Derived.Test.YtnhlppginnojfaaDoorEng38
set_option linter.unusedVariables false
set_option linter.unusedSimpArgs false
namespace Go.Eng
noncomputable section
variable {P : Program} {D : Tab}
def CallsA (P : Program) (g : FuncId) (args : List AV) (s : St) (Q : AV → St → Prop) : Prop :=
 ∀ (φ : Phi) (vals : List Value) (w : World) (cs : List Frame), Rel φ s w → VRs φ args vals →
  ∃ v s', Q v s' ∧ ∃ (φ' : Phi) (u : Value) (w' : World) (fr : Frame), Stp φ s w φ' s' w' ∧ Rel φ' s' w' ∧ VR φ' v u ∧
   Steps P (lone (Frame.enter P g vals.toArray .normal) cs w) (lone fr cs w') ∧ fr.fn = g ∧ fr.leaving P w' (.returned u)
def RunA (P : Program) (rnd : Option Nat) (fn : FuncId) (code : Code) (cf : Cf) (Q : Ex → Cf → Prop) : Prop :=
 ∀ (φ : Phi) (a : Act) (w : World) (b : Frame) (k : List Item) (cs : List Frame), CfR φ cf a w → b.fn = fn → b.kind = .normal → RndR φ rnd b.roundOf →
  ∃ e cf', Q e cf' ∧ ∃ (φ' : Phi) (a' : Act) (w' : World), Stp φ cf.s w φ' cf'.s w' ∧ CfR φ' cf' a' w' ∧ ArrR P (lone (b.atR a (.code code :: k)) cs w) b k cs e a' w'
def LoopA (P : Program) (rnd : Option Nat) (fn : FuncId) (code : Code) (cf : Cf) (Q : Ex → Cf → Prop) : Prop :=
 ∀ (φ : Phi) (a : Act) (w : World) (b : Frame) (k : List Item) (cs : List Frame), CfR φ cf a w → b.fn = fn → b.kind = .normal → RndR φ rnd b.roundOf →
  ∃ e cf', Q e cf' ∧ ∃ (φ' : Phi) (a' : Act) (w' : World), Stp φ cf.s w φ' cf'.s w' ∧ CfR φ' cf' a' w' ∧ ArrR P (lone (b.atR a (.code code :: .inLoop code :: k)) cs w) b k cs e a' w'
def OperA (P : Program) (T : PT AV) (s : St) (o : Oper) (K : AV → St → Prop) : Prop :=
 ∀ (φ : Phi) (a : Act) (w : World) (b : Frame) (k : List Item) (cs : List Frame) (ops : Array Oper) (i : Nat) (rest : List Nat), ops[i]? = some o → Region.wanted o (yielded ops a.tmps) = true → TR φ T a.tmps → Rel φ s w →
  ∃ v s', K v s' ∧ ∃ φ' u w', Stp φ s w φ' s' w' ∧ Rel φ' s' w' ∧ VR φ' v u ∧ Steps P (lone (b.atR a (.inRegion ops (i :: rest) :: k)) cs w) (lone (b.atR (a.put o.dst u) (.inRegion ops rest :: k)) cs w')
def RegA (P : Program) (ops : Array Oper) (i : Nat) (l : List Oper) (cf : Cf) (Q : Cf → Prop) : Prop :=
 ∀ (φ : Phi) (a : Act) (w : World) (b : Frame) (k : List Item) (cs : List Frame), CfR φ cf a w →
  ∃ cf', Q cf' ∧ ∃ φ' a' w', Stp φ cf.s w φ' cf'.s w' ∧ CfR φ' cf' a' w' ∧ Steps P (lone (b.atR a (.inRegion ops (List.range' i l.length) :: k)) cs w) (lone (b.atR a' k) cs w')
theorem CallsA.mono {g : FuncId} {args : List AV} {s : St} {Q Q' : AV → St → Prop} (h : CallsA P g args s Q) (hq : ∀ v s', Q v s' → Q' v s') : CallsA P g args s Q' :=
 fun φ vals w cs hr hv => let ⟨v, s', q, r⟩ := h φ vals w cs hr hv; ⟨v, s', hq v s' q, r⟩
theorem RunA.mono {rnd : Option Nat} {fn : FuncId} {code : Code} {cf : Cf} {Q Q' : Ex → Cf → Prop} (h : RunA P rnd fn code cf Q) (hq : ∀ e cf', Q e cf' → Q' e cf') : RunA P rnd fn code cf Q' :=
 fun φ a w b k cs hc hb hk hr => let ⟨e, cf', q, r⟩ := h φ a w b k cs hc hb hk hr; ⟨e, cf', hq e cf' q, r⟩
theorem OperA.mono {T : PT AV} {s : St} {o : Oper} {K K' : AV → St → Prop} (h : OperA P T s o K) (hq : ∀ v s', K v s' → K' v s') : OperA P T s o K' :=
 fun φ a w b k cs ops i rest h1 h2 h3 h4 => let ⟨v, s', q, r⟩ := h φ a w b k cs ops i rest h1 h2 h3 h4; ⟨v, s', hq v s' q, r⟩
theorem CallsA.closed {g : FuncId} (h : ∀ w, Calls P g #[] w fun e w' => e = .returned (.bool true) ∧ Kept w w') (s : St) : CallsA P g [] s fun v s' => v = .bool true ∧ s' = s := by
 intro φ vals w cs hr hv
 cases hv
 obtain ⟨e, w', fr, ⟨rfl, hk⟩, h1, h2, h3⟩ := h w cs
 refine ⟨.bool true, s, ⟨rfl, rfl⟩, φ, .bool true, w', fr, ⟨Phi.le.rfl' φ, fun b r sh hb hr => .inr ⟨b, sh, hb, hr⟩, fun b r sh hb hr => .inr ⟨b, sh, hb, hr⟩, fun r hr _ => hk.keep r hr, hk.size, hk.os, hk.out, hk.tape, Nat.le_refl _, Nat.le_refl _, fun _ _ => rfl, fun r arr e fz hx => ?_, fun _ => hk.dr⟩, ?_, .bool true, h1, h2, h3⟩
 ·have := (Array.getElem?_eq_some_iff.1 hx).1
  exact ⟨arr, fz, by rw [hk.keep r this]; exact hx, rfl⟩
 ·refine ⟨fun b o hb => ?_, hr.inj, hr.fresh, hr.freshc, hr.glob, hr.gnx, hr.facts⟩
  rcases hr.obj b o hb with hv | ⟨r, sh, ro, h1, h2, h3⟩
  ·exact .inl hv
  ·have := (Array.getElem?_eq_some_iff.1 h2).1
   exact .inr ⟨r, sh, ro, h1, by rw [hk.keep r this]; exact h2, h3⟩
theorem OperA.val (hD : TabOk P D) {T : PT AV} {s s' : St} {o : Oper} {v : AV} {K : AV → St → Prop} (h : opA D T s o.op = some (.val v s')) (hk : K v s') : OperA P T s o K := by
 intro φ a w b k cs ops i rest ho hw ht hr
 have hg := stepGR_op (P := P) (b := b) (k := k) (cs := cs) (w := w) (rest := rest) ho hw
 have hfin : ∀ v, (b.atR a (.inRegion ops (i :: rest) :: k)).finish v = b.atR (a.put o.dst v) (.inRegion ops rest :: k) := by
  intro v; rw [Frame.finish_atR, ho]; rfl
 have hok := opA_ok hD hr (EvR.of_act ht) h
 rw [Oper.semAt_eq _ _ _ (opA_nodefer h)] at hg
 obtain ⟨φ', w', u, h1, h2, h3, h4⟩ := hok
 refine ⟨v, s', hk, φ', u, w', h2, h3, h4, .one (step_lone_go ?_)⟩
 rw [hg, ← hfin]
 rcases h1 with h1 | ⟨h1, rfl⟩ <;> simp [stepG.apply, h1]
theorem OperA.enter (hD : TabOk P D) {T : PT AV} {s : St} {o : Oper} {g : FuncId} {args : List AV} {K : AV → St → Prop} (h : opA D T s o.op = some (.enter g args)) (hk : CallsA P g args s K) : OperA P T s o K := by
 intro φ a w b k cs ops i rest ho hw ht hr
 have hg := stepGR_op (P := P) (b := b) (k := k) (cs := cs) (w := w) (rest := rest) ho hw
 have hfin : ∀ v, (b.atR a (.inRegion ops (i :: rest) :: k)).finish v = b.atR (a.put o.dst v) (.inRegion ops rest :: k) := by
  intro v; rw [Frame.finish_atR, ho]; rfl
 have hok := opA_ok hD hr (EvR.of_act ht) h
 rw [Oper.semAt_eq _ _ _ (opA_nodefer h)] at hg
 obtain ⟨vals, h1, h2⟩ := hok
 obtain ⟨v, s', m, φ', u, w', fr, q1, q2, q3, q4, q5, q6⟩ := hk φ vals w (b.atR a (.inRegion ops (i :: rest) :: k) :: cs) hr h1
 refine ⟨v, s', m, φ', u, w', q1, q2, q3, ?_⟩
 have henter : step P (lone (b.atR a (.inRegion ops (i :: rest) :: k)) cs w) =
   .next (lone (Frame.enter P g vals.toArray .normal) (b.atR a (.inRegion ops (i :: rest) :: k) :: cs) w) :=
  step_lone_go (by rw [hg]; simp [stepG.apply, h2, Frame.atR])
 refine .head henter (q4.trans (.one ?_))
 rw [← hfin]
 exact step_leave_returned q6
theorem OperA.next (hD : TabOk P D) {T : PT AV} {s : St} {o : Oper} {it : AV} {str : Bool} {l : List (AV × St)} {K : AV → St → Prop} (h : opA D T s o.op = some (.next it str)) (hl : nextA s it str = some l) (hk : ∀ v s', (v, s') ∈ l → K v s') : OperA P T s o K := by
 intro φ a w b k cs ops i rest ho hw ht hr
 have hg := stepGR_op (P := P) (b := b) (k := k) (cs := cs) (w := w) (rest := rest) ho hw
 have hfin : ∀ v, (b.atR a (.inRegion ops (i :: rest) :: k)).finish v = b.atR (a.put o.dst v) (.inRegion ops rest :: k) := by
  intro v; rw [Frame.finish_atR, ho]; rfl
 have hok := opA_ok hD hr (EvR.of_act ht) h
 rw [Oper.semAt_eq _ _ _ (opA_nodefer h)] at hg
 obtain ⟨iv, ty, h1, h2⟩ := hok
 obtain ⟨v, s', m, u, w', q1, q2, q3, q4⟩ := nextA_ok (P := P) hr h1 hl ty
 refine ⟨v, s', hk v s' m, φ, u, w', q3, q4, q2, .one (step_lone_go ?_)⟩
 rw [hg, ← hfin]
 simp [stepG.apply, h2, q1]
theorem RegA.nil {ops : Array Oper} {i : Nat} {cf : Cf} {Q : Cf → Prop} (h : Q cf) : RegA P ops i [] cf Q :=
 fun φ a w _ _ _ hc => ⟨cf, h, φ, a, w, Stp.refl _ _ _, hc, .one stepR_region_end⟩
theorem RegA.skip {ops : Array Oper} {i : Nat} {o : Oper} {r : List Oper} {cf : Cf} {Q : Cf → Prop} (ho : ops[i]? = some o) (hg : guardOk cf.t ops o = some false) (h : RegA P ops (i + 1) r { cf with t := putA cf.t cf.n o.dst .undef } Q) : RegA P ops i (o :: r) cf Q := by
 intro φ a w b k cs hc
 simp only [List.length_cons, List.range'_succ]
 have hw := guardOk_ok hc.t hg
 have hs := stepR_op_skip (P := P) (b := b) (a := a) (k := k) (cs := cs) (w := w) (ops := ops) (i := i) (rest := List.range' (i + 1) r.length) (by simp [ho, hw])
 simp only [ho, Option.bind_some] at hs
 obtain ⟨cf', m, φ', a', w', g1, g2, g3⟩ := h φ _ w b k cs (hc.put (d := o.dst) (VR.undef (φ := φ)))
 exact ⟨cf', m, φ', a', w', g1, g2, .head hs g3⟩
theorem RegA.cons {ops : Array Oper} {i : Nat} {o : Oper} {r : List Oper} {cf : Cf} {Q : Cf → Prop} (ho : ops[i]? = some o) (hg : guardOk cf.t ops o = some true) (h : OperA P cf.t cf.s o fun v s' => RegA P ops (i + 1) r { cf with t := putA cf.t cf.n o.dst v, s := s' } Q) : RegA P ops i (o :: r) cf Q := by
 intro φ a w b k cs hc
 simp only [List.length_cons, List.range'_succ]
 have hw := guardOk_ok hc.t hg
 obtain ⟨v, s', hk, φ', u, w', q1, q2, q3, q4⟩ := h φ a w b k cs ops i (List.range' (i + 1) r.length) ho hw hc.t hc.s
 obtain ⟨cf', m, φ2, a', w2, g1, g2, g3⟩ := hk φ' _ w' b k cs ((hc.step q1 q2).put (d := o.dst) q3)
 exact ⟨cf', m, φ2, a', w2, q1.trans g1, g2, q4.trans g3⟩
section
variable {rnd : Option Nat} {fn : FuncId} {cf : Cf} {Q : Ex → Cf → Prop}
theorem RunA.skip (h : Q .normal cf) : RunA P rnd fn .skip cf Q := fun φ a w _ _ _ hc _ _ _ => ⟨_, cf, h, φ, a, w, Stp.refl _ _ _, hc, .one stepR_skip⟩
theorem RunA.label {l : Nat} (h : Q .normal cf) : RunA P rnd fn (.label l) cf Q := fun φ a w _ _ _ hc _ _ _ => ⟨_, cf, h, φ, a, w, Stp.refl _ _ _, hc, .one stepR_label⟩
theorem RunA.ret (h : Q .ret cf) : RunA P rnd fn .ret cf Q := fun φ a w _ k _ hc _ _ _ => ⟨_, cf, h, φ, a, w, Stp.refl _ _ _, hc, k, .refl _ _⟩
theorem RunA.exit {id : Nat} (h : Q (.exit id) cf) : RunA P rnd fn (.exit id) cf Q := fun φ a w _ k _ hc _ _ _ => ⟨_, cf, h, φ, a, w, Stp.refl _ _ _, hc, k, rfl, .refl _ _⟩
def thenK (K : Cf → Prop) (Q : Ex → Cf → Prop) (e : Ex) (cf : Cf) : Prop :=
 match e with
 | .normal => K cf
 | e => Q e cf
theorem RunA.seq {x y : Code} (h : RunA P rnd fn x cf (thenK (fun cf' => RunA P rnd fn y cf' Q) Q)) : RunA P rnd fn (.seq x y) cf Q := by
 intro φ a w b k cs hc hb hk hr
 have hs := stepR_seq (P := P) (b := b) (a := a) (k := k) (cs := cs) (w := w) (x := x) (y := y)
 obtain ⟨e1, c1, m1, φ1, a1, w1, q1, q2, q3⟩ := h φ a w b (.code y :: k) cs hc hb hk hr
 cases e1 with
 | normal =>
  obtain ⟨e2, c2, m2, φ2, a2, w2, r1, r2, r3⟩ := m1 φ1 a1 w1 b k cs q2 hb hk (hr.mono q1.ext)
  exact ⟨e2, c2, m2, φ2, a2, w2, q1.trans r1, r2, (r3.of_steps q3).of_steps (.one hs)⟩
 | exit id => exact ⟨_, c1, m1, φ1, a1, w1, q1, q2, (q3.out (fun _ _ => by simp [exitTo]) (by simp)).of_steps (.one hs)⟩
 | ret => exact ⟨_, c1, m1, φ1, a1, w1, q1, q2, (q3.out (fun _ _ => by simp [exitTo]) (by simp)).of_steps (.one hs)⟩
theorem RunA.cond {c : Operand} {x y : Code} {v : Bool} (hv : ev cf.t c = some (.bool v)) (h1 : v = true → RunA P rnd fn x cf Q) (h2 : v = false → RunA P rnd fn y cf Q) : RunA P rnd fn (.cond c x y) cf Q := by
 intro φ a w b k cs hc hb hk hr
 have hv' := ev_ok hc.s (EvR.of_act hc.t) hv
 generalize hcv : a.eval c = cv at hv'
 cases hv'
 cases v with
 | true =>
  obtain ⟨e, c', m, φ', a', w', q1, q2, q3⟩ := h1 rfl φ a w b k cs hc hb hk hr
  exact ⟨e, c', m, φ', a', w', q1, q2, q3.of_steps (.one (stepR_cond (P := P) (b := b) (a := a) (k := k) (cs := cs) (w := w) (x := x) (y := y) hcv))⟩
 | false =>
  obtain ⟨e, c', m, φ', a', w', q1, q2, q3⟩ := h2 rfl φ a w b k cs hc hb hk hr
  exact ⟨e, c', m, φ', a', w', q1, q2, q3.of_steps (.one (stepR_cond (P := P) (b := b) (a := a) (k := k) (cs := cs) (w := w) (x := x) (y := y) hcv))⟩
def blockK (id : Nat) (Q : Ex → Cf → Prop) (e : Ex) (cf : Cf) : Prop :=
 match e with
 | .exit i => (match Nat.beq i id with | true => Q .normal cf | false => Q (.exit i) cf)
 | e => Q e cf
theorem RunA.block {id : Nat} {x : Code} (h : RunA P rnd fn x cf (blockK id Q)) : RunA P rnd fn (.block id x) cf Q := by
 intro φ a w b k cs hc hb hk hr
 have hs := stepR_block (P := P) (b := b) (a := a) (k := k) (cs := cs) (w := w) (id := id) (c := x)
 obtain ⟨e1, c1, m1, φ1, a1, w1, q1, q2, q3⟩ := h φ a w b (.inBlock id :: k) cs hc hb hk hr
 cases e1 with
 | normal => exact ⟨.normal, c1, m1, φ1, a1, w1, q1, q2, (q3.out (by simp) (fun _ => .one stepR_inBlock)).of_steps (.one hs)⟩
 | ret => exact ⟨.ret, c1, m1, φ1, a1, w1, q1, q2, (q3.out (by simp) (by simp)).of_steps (.one hs)⟩
 | exit i =>
  obtain ⟨k1, g1, g2⟩ := q3
  simp only [blockK] at m1
  cases he : Nat.beq i id with
  | true =>
   rw [he] at m1
   have := beq_true he
   subst this
   refine ⟨.normal, c1, m1, φ1, a1, w1, q1, q2, ?_⟩
   have hx : exitTo i k1 = some k := by rw [g1]; simp [exitTo]
   exact Steps.head hs (g2.trans (.one (stepR_exit hx)))
  | false =>
   rw [he] at m1
   have hne : ¬ i = id := by
    rintro rfl
    rw [Nat.beq_refl] at he
    simp at he
   refine ⟨.exit i, c1, m1, φ1, a1, w1, q1, q2, k1, ?_, .head hs g2⟩
   rw [g1]
   simp [exitTo, Ne.symm hne]
theorem RunA.scope {x : Code} (h : RunA P rnd fn x cf Q) : RunA P rnd fn (.scope x) cf Q := by
 intro φ a w b k cs hc hb hk hr
 obtain ⟨e, c', m, φ', a', w', q1, q2, q3⟩ := h φ a w b (.inScope x :: k) cs hc hb hk hr
 exact ⟨e, c', m, φ', a', w', q1, q2, (q3.out (fun _ _ => by simp [exitTo]) (fun _ => .one stepR_inScope)).of_steps (.one stepR_scope)⟩
theorem RunA.loop {x : Code} (h : LoopA P rnd fn x cf Q) : RunA P rnd fn (.loop x) cf Q := by
 intro φ a w b k cs hc hb hk hr
 obtain ⟨e, c', m, φ', a', w', q1, q2, q3⟩ := h φ a w b k cs hc hb hk hr
 exact ⟨e, c', m, φ', a', w', q1, q2, q3.of_steps (.one stepR_loop)⟩
theorem RunA.region {id : Nat} {ops : Array Oper} (h : RegA P ops 0 ops.toList cf (Q .normal)) : RunA P rnd fn (.region id ops false) cf Q := by
 intro φ a w b k cs hc hb hk hr
 obtain ⟨cf', m, φ', a', w', q1, q2, q3⟩ := h φ a w b k cs hc
 refine ⟨.normal, cf', m, φ', a', w', q1, q2, ?_⟩
 have e : List.range ops.size = List.range' 0 ops.toList.length := by rw [List.range_eq_range']; simp
 refine Steps.head stepR_region ?_
 rw [e]
 exact q3
end
theorem CfR.fewer {φ : Phi} {cf cf' : Cf} {a : Act} {w : World} (h : CfR φ cf a w) (ht : ∀ i x, cf'.t.get i = some x → cf.t.get i = some x) (hn : cf'.n = cf.n) (hd : cf'.ds = cf.ds) (hs : cf'.s = cf.s) : CfR φ cf' a w :=
 ⟨fun i x hi => h.t i x (ht i x hi), by rw [hn]; exact h.n, by rw [hd]; exact h.ds, by rw [hs]; exact h.s⟩
theorem LoopA.inv {rnd : Option Nat} {fn : FuncId} {code : Code} {cf : Cf} {Q : Ex → Cf → Prop} (I : Nat → Cf → Prop) {m : Nat} (h0 : I m cf)
  (hround : ∀ m cf, I m cf → RunA P rnd fn code cf fun e cf' => match e with | .normal => ∃ m' cf'', m' < m ∧ I m' cf'' ∧ (∀ i x, cf''.t.get i = some x → cf'.t.get i = some x) ∧ cf''.n = cf'.n ∧ cf''.ds = cf'.ds ∧ cf''.s = cf'.s | e => Q e cf') : LoopA P rnd fn code cf Q := by
 induction m using Nat.strongRecOn generalizing cf with
 | _ m ih =>
  intro φ a w b k cs hc hb hk hr
  obtain ⟨e1, c1, m1, φ1, a1, w1, q1, q2, q3⟩ := hround m cf h0 φ a w b (.inLoop code :: k) cs hc hb hk hr
  cases e1 with
  | normal =>
   obtain ⟨m', cf'', hlt, hI, g1, g2, g3, g4⟩ := m1
   obtain ⟨e2, c2, m2, φ2, a2, w2, r1, r2, r3⟩ := ih m' hlt hI φ1 a1 w1 b k cs (q2.fewer g1 g2 g3 g4) hb hk (hr.mono q1.ext)
   rw [g4] at r1
   exact ⟨e2, c2, m2, φ2, a2, w2, q1.trans r1, r2, r3.of_steps (Steps.trans q3 (.one stepR_inLoop))⟩
  | exit id => exact ⟨_, c1, m1, φ1, a1, w1, q1, q2, q3.out (fun _ _ => by simp [exitTo]) (by simp)⟩
  | ret => exact ⟨_, c1, m1, φ1, a1, w1, q1, q2, q3.out (fun _ _ => by simp [exitTo]) (by simp)⟩
def endK (D : Tab) (rs : List ResultVar) (K : AV → St → Prop) (e : Ex) (cf : Cf) : Prop :=
 match e with
 | .exit _ => False
 | _ => match endFn D rs cf with | some x => K x.1 x.2 | none => False
theorem CallsA.of_run (hD : TabOk P D) {g : FuncId} {fi : FnI} {args : List AV} {s : St} {Q : AV → St → Prop} (hfi : D.fn.get g = some fi)
  (h : RunA P none g fi.body { t := PT.setAll .nil 0 args, n := max args.length fi.nt, s, ds := [] } (endK D fi.results Q)) : CallsA P g args s Q := by
 intro φ vals w cs hr hv
 obtain ⟨fn, c, hf, hb, hnt, hbody, hres, _⟩ := fnOf_call hD hfi
 let b : Frame := { (default : Frame) with fn := g, kind := .normal }
 let a0 : Act := { tmps := vals.toArray ++ Array.replicate (fn.ntmps - vals.toArray.size) undef, defers := [] }
 have henter : Frame.enter P g vals.toArray .normal = b.atR a0 [.code c] := by
  simp [Frame.enter, Frame.atR, hf, hb, b, a0]
  rfl
 have hcf : CfR φ { t := PT.setAll .nil 0 args, n := max args.length fi.nt, s, ds := [] } a0 w := by
  refine ⟨fun i x hi => ?_, ?_, trivial, hr⟩
  ·simp only [PT.get_setAll] at hi
   split at hi
   ·rename_i hin
    simp only [Nat.sub_zero] at hi
    obtain ⟨u, g1, g2⟩ := hv.get i x hi
    refine ⟨u, ?_, g2⟩
    simp only [a0]
    rw [Array.getElem?_append_left (by have := hv.length; simp; omega)]
    simpa using g1
   ·simp at hi
  ·have := hv.length
   simp [a0, hnt]
   omega
 rw [hbody] at h
 obtain ⟨e, cf', hend, φ', a', w', g1, g2, g3⟩ := h φ a0 w b [] cs hcf rfl rfl trivial
 have hret : ∃ k, Steps P (lone (b.atR a0 [.code c]) cs w) (lone { b.atR a' k with mode := .returning } cs w') := by
  cases e with
  | normal => exact ⟨[], g3.trans (.one (stepR_end rfl))⟩
  | exit id => exact hend.elim
  | ret => obtain ⟨k1, g3⟩ := g3; exact ⟨_, g3.trans (.one (stepR_ret rfl))⟩
 obtain ⟨k, hsteps⟩ := hret
 have hx : ∃ x, endFn D fi.results cf' = some x ∧ Q x.1 x.2 := by
  cases e with
  | exit id => exact hend.elim
  | _ =>
   simp only [endK] at hend
   split at hend
   ·exact ⟨_, by assumption, hend⟩
   ·exact hend.elim
 obtain ⟨⟨v, s'⟩, hx, hq⟩ := hx
 rw [hres] at hx
 obtain ⟨u, w2, fr, q1, q2, q3, q4, q5, q6⟩ := endFn_ok (k := k) (cs := cs) hD (show P.funcs[b.fn]? = some fn from hf) rfl g2 hx
 exact ⟨v, s', hq, φ', u, w2, fr, g1.trans q1, q2, q3, by rw [henter]; exact hsteps.trans q4, q5, q6⟩
end
end Go.Eng

namespace Go.Eng.Dr
variable {P : Program} {D : Tab} {ops : Array Oper} {base n : Nat}
def PastP (D : Tab) (T : PT AV) (op : Op) (m : Nat) (pend : List (Nat × Nat × AObj)) (v : AV) : List (Nat × St) → Prop
 | [] => True
 | (k, s) :: r => (match bitOf m k with | true => True | false => readAt D T { s with h := flush m pend s.h } op = some v ∧ PastP D T op m pend v r)
def readsF (m : Nat) : List (Nat × Op × PT AV × AV) → List (Nat × Op × PT AV × AV)
 | [] => []
 | x :: r => (match bitOf m x.1 with | true => readsF m r | false => x :: readsF m r)
inductive One (P : Program) (D : Tab) (ops : Array Oper) (base n i : Nat) (o : Oper) (m : Nat) (g : Rg) (T : PT AV) : Rg → Prop
 | skip (hg : guardOk T ops o = some false) : One P D ops base n i o m g T { g with t := putA g.t n o.dst .undef }
 | pure (v : AV) (s' : St) (hg : guardOk T ops o = some true) (hk : kindOf D o.op = .pure) (h : opA D T g.s o.op = some (.val v s')) : One P D ops base n i o m g T { g with t := putA g.t n o.dst v }
 | read (v : AV) (hg : guardOk T ops o = some true) (hk : kindOf D o.op = .read) (h : readAt D T { g.s with h := flush m g.pend g.s.h } o.op = some v) (hp : PastP D T o.op m g.pend v g.past) :
   One P D ops base n i o m g T { g with t := putA g.t n o.dst v, reads := (i, o.op, T, v) :: g.reads }
 | alloc (v : AV) (s' : St) (ob : AObj) (hg : guardOk T ops o = some true) (hk : kindOf D o.op = .alloc) (h : opA D T { g.s with nx := base + i } o.op = some (.val v s')) (ho : s'.h.get (base + i) = some ob) :
   One P D ops base n i o m g T { g with t := putA g.t n o.dst v, pend := (i, base + i, ob) :: g.pend }
 | heavy (v : AV) (s' : St) (hg : guardOk T ops o = some true) (hk : kindOf D o.op = .heavy) (hp : allPast m g.past = true) (h : OperA P T { g.s with h := flush m g.pend g.s.h } o fun v' s'' => v' = v ∧ s'' = s')
   (hr : ∀ x, x ∈ g.reads → bitOf m x.1 = false → readAt D x.2.2.1 { s' with h := flush ((masks ops.toList)[x.1]?.getD 0) (keep m g.pend) s'.h } x.2.1 = some x.2.2.2) :
   One P D ops base n i o m g T { t := putA g.t n o.dst v, s := s', pend := keep m g.pend, past := (i, g.s) :: g.past, reads := readsF m g.reads }
def Walk (P : Program) (D : Tab) (ops : Array Oper) (base n : Nat) (gs : Nat → Rg) : Prop :=
 ∀ i o, ops[i]? = some o → One P D ops base n i o ((masks ops.toList)[i]?.getD 0) (gs i) (cut (gs i).t (looksOf ops o)) (gs (i + 1))
section
variable {gs : Nat → Rg} (hw : Walk P D ops base n gs)
include hw
theorem walk_s {i : Nat} {o : Oper} (ho : ops[i]? = some o) (h : ¬ hv D ops gs i) : (gs (i + 1)).s = (gs i).s ∧ (gs (i + 1)).past = (gs i).past := by
 have := hw i o ho
 revert this
 generalize gs (i + 1) = g'
 intro this
 cases this with
 | heavy v s' hg hk hp hop hr => exact absurd ⟨o, ho, hg, hk⟩ h
 | _ => exact ⟨rfl, rfl⟩
theorem walk_s_range {p q : Nat} (hpq : p ≤ q) (hq : q ≤ ops.size) (h : ∀ k, p ≤ k → k < q → ¬ hv D ops gs k) : (gs q).s = (gs p).s := by
 induction q with
 | zero => have : p = 0 := by omega
           rw [this]
 | succ q ih =>
  by_cases e : p = q + 1
  ·rw [e]
  ·rw [(walk_s hw (o := ops[q]) (by simp [show q < ops.size by omega]) (h q (by omega) (by omega))).1]
   exact ih (by omega) (by omega) fun k h1 h2 => h k h1 (by omega)
theorem walk_t {i : Nat} {o : Oper} (ho : ops[i]? = some o) : ∃ v, (gs (i + 1)).t = putA (gs i).t n o.dst v := by
 have := hw i o ho
 revert this
 generalize gs (i + 1) = g'
 intro this
 cases this <;> exact ⟨_, rfl⟩
theorem walk_t_range {t p q : Nat} (hpq : p ≤ q) (hq : q ≤ ops.size) (h : ∀ k o, p ≤ k → k < q → ops[k]? = some o → o.dst ≠ some t) : (gs q).t.get t = (gs p).t.get t := by
 induction q with
 | zero => have : p = 0 := by omega
           rw [this]
 | succ q ih =>
  by_cases e : p = q + 1
  ·rw [e]
  ·have ho : ops[q]? = some ops[q] := by simp [show q < ops.size by omega]
   obtain ⟨v, hv⟩ := walk_t hw ho
   rw [hv, putA_ne (h q _ (by omega) (by omega) ho)]
   exact ih (by omega) (by omega) fun k o h1 h2 => h k o h1 (by omega)
theorem walk_past (h0 : (gs 0).past = []) : ∀ (q : Nat), q ≤ ops.size → (∀ k s, (k, s) ∈ (gs q).past.head? → hv D ops gs k ∧ k < q ∧ ∀ k', k < k' → k' < q → ¬ hv D ops gs k') ∧ ((gs q).past = [] → ∀ k', k' < q → ¬ hv D ops gs k')
 | 0, _ => by simp [h0]
 | q + 1, hq => by
  obtain ⟨h1, h2⟩ := walk_past h0 q (by omega)
  have ho : ops[q]? = some ops[q] := by simp [show q < ops.size by omega]
  by_cases hh : hv D ops gs q
  ·obtain ⟨o, ho', hg, hk⟩ := hh
   have hone := hw q o ho'
   revert hone
   generalize hgg : gs (q + 1) = g'
   intro hone
   cases hone with
   | heavy v s' hg' hk' hp hop hr =>
    refine ⟨?_, by simp⟩
    intro k s hks
    simp at hks
    obtain ⟨rfl, rfl⟩ := hks
    exact ⟨⟨o, ho', hg, hk⟩, by omega, fun k' h3 h4 => by omega⟩
   | skip hg' => rw [hg] at hg'; simp at hg'
   | pure v s' hg' hk' => rw [hk] at hk'; simp at hk'
   | read v hg' hk' => rw [hk] at hk'; simp at hk'
   | alloc v s' ob hg' hk' => rw [hk] at hk'; simp at hk'
  ·rw [(walk_s hw ho hh).2]
   refine ⟨fun k s hks => ?_, fun hn k' hk' => ?_⟩
   ·obtain ⟨g1, g2, g3⟩ := h1 k s hks
    refine ⟨g1, by omega, fun k' h3 h4 => ?_⟩
    by_cases e : k' = q
    ·rw [e]; exact hh
    ·exact g3 k' h3 (by omega)
   ·by_cases e : k' = q
    ·rw [e]; exact hh
    ·exact h2 hn k' (by omega)
theorem walk_chain (h0 : (gs 0).past = []) {E : Nat → Prop} (hE : ∀ i j, hv D ops gs i → (E i) → anc ops i j = true → E j) : ∀ (i : Nat), hv D ops gs i → (∀ j, anc ops i j = true → E j) → ∀ j, j < i → hv D ops gs j → E j := by
 intro i
 induction i using Nat.strongRecOn with
 | _ i ih =>
  intro hi hanc j hj hhj
  obtain ⟨o, ho, hg, hk⟩ := hi
  have hsz : i < ops.size := (Array.getElem?_eq_some_iff.1 ho).1
  have hone := hw i o ho
  revert hone
  generalize hgg : gs (i + 1) = g'
  intro hone
  cases hone with
  | heavy v s' hg' hk' hp hop hr =>
   obtain ⟨h1, h2⟩ := walk_past hw h0 i (by omega)
   cases hpast : (gs i).past with
   | nil => exact absurd hhj (h2 hpast j hj)
   | cons x r =>
    obtain ⟨k, s⟩ := x
    rw [hpast] at hp
    obtain ⟨g1, g2, g3⟩ := h1 k s (by simp [hpast])
    have hkE : E k := hanc k hp
    rcases Nat.lt_trichotomy j k with h | h | h
    ·exact ih k g2 g1 (fun j' hj' => hE k j' g1 hkE hj') j h hhj
    ·rw [h]; exact hkE
    ·exact absurd hhj (g3 j h hj)
  | skip hg' => rw [hg] at hg'; simp at hg'
  | pure v s' hg' hk' => rw [hk] at hk'; simp at hk'
  | read v hg' hk' => rw [hk] at hk'; simp at hk'
  | alloc v s' ob hg' hk' => rw [hk] at hk'; simp at hk'
theorem past_read {T : PT AV} {op : Op} {m : Nat} {pend : List (Nat × Nat × AObj)} {v : AV} {p : Nat} : ∀ (q : Nat), q ≤ ops.size → p ≤ q → PastP D T op m pend v (gs q).past → (∀ k, p ≤ k → k < q → hv D ops gs k → bitOf m k = false) →
  (∃ k, p ≤ k ∧ k < q ∧ hv D ops gs k) → readAt D T { (gs p).s with h := flush m pend (gs p).s.h } op = some v
 | 0, _, _, _, _, h => by obtain ⟨k, h1, h2, _⟩ := h; omega
 | q + 1, hq, hpq, hp, hb, hex => by
  have ho : ops[q]? = some ops[q] := by simp [show q < ops.size by omega]
  have hpq' : p ≤ q := by obtain ⟨k, h1, h2, _⟩ := hex; omega
  by_cases hh : hv D ops gs q
  ·have hbq := hb q hpq' (by omega) hh
   obtain ⟨o, ho', hg, hk⟩ := hh
   have hone := hw q o ho'
   revert hone hp
   generalize hgg : gs (q + 1) = g'
   intro hp hone
   cases hone with
   | heavy v' s' hg' hk' hpp hop hr =>
    simp only [PastP, hbq] at hp
    by_cases hex' : ∃ k, p ≤ k ∧ k < q ∧ hv D ops gs k
    ·exact past_read q (by omega) hpq' hp.2 (fun k h1 h2 => hb k h1 (by omega)) hex'
    ·have := walk_s_range hw hpq' (by omega) (fun k h1 h2 h3 => hex' ⟨k, h1, h2, h3⟩)
     rw [← this]
     exact hp.1
   | skip hg' => rw [hg] at hg'; simp at hg'
   | pure v s' hg' hk' => rw [hk] at hk'; simp at hk'
   | read v hg' hk' => rw [hk] at hk'; simp at hk'
   | alloc v s' ob hg' hk' => rw [hk] at hk'; simp at hk'
  ·rw [(walk_s hw ho hh).2] at hp
   refine past_read q (by omega) hpq' hp (fun k h1 h2 => hb k h1 (by omega)) ?_
   obtain ⟨k, h1, h2, h3⟩ := hex
   refine ⟨k, h1, ?_, h3⟩
   by_cases e : k = q
   ·rw [e] at h3; exact absurd h3 hh
   ·omega
omit hw in
theorem readsF_mem {m : Nat} {x : Nat × Op × PT AV × AV} : ∀ {l : List (Nat × Op × PT AV × AV)}, x ∈ l → bitOf m x.1 = false → x ∈ readsF m l
 | [], h, _ => by simp at h
 | y :: r, h, hb => by
  simp only [readsF]
  rcases List.mem_cons.1 h with rfl | h
  ·rw [hb]; exact List.mem_cons_self ..
  ·split
   ·exact readsF_mem h hb
   ·exact List.mem_cons_of_mem _ (readsF_mem h hb)
theorem next_read {i : Nat} {op : Op} {T : PT AV} {v : AV} : ∀ (q : Nat), i + 1 ≤ q → q ≤ ops.size → (i, op, T, v) ∈ (gs (i + 1)).reads → (∀ k, i < k → k < q → hv D ops gs k → anc ops k i = false) →
  (i, op, T, v) ∈ (gs q).reads ∧ ((∃ k, i < k ∧ k < q ∧ hv D ops gs k) → ∃ k, i < k ∧ k < q ∧ (gs (k + 1)).s = (gs q).s ∧ (∀ k', k < k' → k' < q → ¬ hv D ops gs k') ∧ readAt D T { (gs q).s with h := flush ((masks ops.toList)[i]?.getD 0) (gs (k + 1)).pend (gs q).s.h } op = some v)
 | 0, h, _, _, _ => by omega
 | q + 1, hq1, hq, hm, hb => by
  by_cases e : i = q
  ·subst e
   exact ⟨hm, fun ⟨k, h1, h2, _⟩ => by omega⟩
  ·obtain ⟨g1, g2⟩ := next_read q (by omega) (by omega) hm fun k h1 h2 => hb k h1 (by omega)
   have ho : ops[q]? = some ops[q] := by simp [show q < ops.size by omega]
   have hone := hw q _ ho
   by_cases hh : hv D ops gs q
   ·have hbq := hb q (by omega) (by omega) hh
    obtain ⟨o, ho', hg, hk⟩ := hh
    rw [ho] at ho'
    simp at ho'
    subst ho'
    revert hone
    generalize hgg : gs (q + 1) = g'
    intro hone
    cases hone with
    | heavy v' s' hg' hk' hpp hop hr =>
     have q1 := readsF_mem g1 hbq
     have q2 := hr _ g1 hbq
     refine ⟨q1, fun _ => ⟨q, by omega, by omega, by rw [hgg], fun k' h1 h2 => by omega, ?_⟩⟩
     rw [hgg]
     exact q2
    | skip hg' => rw [hg] at hg'; simp at hg'
    | pure v s' hg' hk' => rw [hk] at hk'; simp at hk'
    | read v hg' hk' => rw [hk] at hk'; simp at hk'
    | alloc v s' ob hg' hk' => rw [hk] at hk'; simp at hk'
   ·have hs := (walk_s hw ho hh).1
    have hr' : (i, op, T, v) ∈ (gs (q + 1)).reads := by
     revert hone
     generalize gs (q + 1) = g'
     intro hone
     cases hone with
     | heavy v' s' hg' hk' => exact absurd ⟨_, ho, hg', hk'⟩ hh
     | read => exact List.mem_cons_of_mem _ g1
     | _ => exact g1
    refine ⟨hr', ?_⟩
    rintro ⟨k, h1, h2, h3⟩
    have hkq : k < q := by
     by_cases e : k = q
     ·rw [e] at h3; exact absurd h3 hh
     ·omega
    obtain ⟨k, a1, a2, a3, a4, a5⟩ := g2 ⟨k, h1, hkq, h3⟩
    rw [hs]
    refine ⟨k, a1, by omega, a3, fun k' h1 h2 => ?_, a5⟩
    by_cases e : k' = q
    ·rw [e]; exact hh
    ·exact a4 k' h1 (by omega)
theorem walk_pend (hf : Fwd ops) (h0 : (gs 0).pend = []) {j b : Nat} {ob : AObj} : ∀ (q : Nat), q ≤ ops.size → (j, b, ob) ∈ (gs q).pend → j < q ∧ b = base + j ∧ AllocAt D ops gs base j ob ∧ ∀ k, k < q → hv D ops gs k → anc ops k j = false
 | 0, _, h => by simp [h0] at h
 | q + 1, hq, h => by
  have ho : ops[q]? = some ops[q] := by simp [show q < ops.size by omega]
  have hone := hw q _ ho
  have hout : hv D ops gs q ∨ ¬ hv D ops gs q := Classical.em _
  have old : ∀ (_ : (j, b, ob) ∈ (gs q).pend), (hv D ops gs q → anc ops q j = false) → j < q + 1 ∧ b = base + j ∧ AllocAt D ops gs base j ob ∧ ∀ k, k < q + 1 → hv D ops gs k → anc ops k j = false := by
   intro hm hb
   obtain ⟨g1, g2, g3, g4⟩ := walk_pend hf h0 q (by omega) hm
   refine ⟨by omega, g2, g3, fun k hk hh => ?_⟩
   by_cases e : k = q
   ·rw [e] at hh ⊢; exact hb hh
   ·exact g4 k (by omega) hh
  revert hone h
  generalize gs (q + 1) = g'
  intro h hone
  cases hone with
  | heavy v' s' hg' hk' hpp hop hr =>
   obtain ⟨h1, h2⟩ := keep_mem h
   exact old h1 fun _ => h2
  | alloc v s' ob' hg' hk' hop hob =>
   rcases List.mem_cons.1 h with h | h
   ·simp at h
    obtain ⟨rfl, rfl, rfl⟩ := h
    refine ⟨by omega, rfl, ⟨_, v, s', ho, hg', hk', hop, hob⟩, fun k hk hh => ?_⟩
    cases hb : anc ops k j with
    | false => rfl
    | true =>
     have := anc_lt hf k j ops[k] (by simp [show k < ops.size by omega]) hb
     omega
   ·refine old h fun hh => ?_
    obtain ⟨o, ho', hg, hk⟩ := hh
    rw [ho] at ho'
    simp at ho'
    subst ho'
    rw [hk] at hk'; simp at hk'
  | skip hg' =>
   refine old h fun hh => ?_
   obtain ⟨o, ho', hg, hk⟩ := hh
   rw [ho] at ho'; simp at ho'; subst ho'
   rw [hg] at hg'; simp at hg'
  | pure v s' hg' hk' =>
   refine old h fun hh => ?_
   obtain ⟨o, ho', hg, hk⟩ := hh
   rw [ho] at ho'; simp at ho'; subst ho'
   rw [hk] at hk'; simp at hk'
  | read v hg' hk' =>
   refine old h fun hh => ?_
   obtain ⟨o, ho', hg, hk⟩ := hh
   rw [ho] at ho'; simp at ho'; subst ho'
   rw [hk] at hk'; simp at hk'
end
variable {gs : Nat → Rg} {φ0 φ : Phi} {s0 : St} {w0 w : World} {E : Nat → Prop} {a : Act}
theorem tmps_step (reg : RegR ops) (hw : Walk P D ops base n gs) (hc : Closed ops E) {i : Nat} {o : Oper} (ho : ops[i]? = some o) (hready : ∀ e, e ∈ o.after → Region.binds .any e = true → E e.on) (hi : ¬ E i)
  (inv : Inv D ops gs base n φ0 s0 w0 E φ a w) {φ' : Phi} (hle : φ.le φ') {v : AV} {u : Value} (hv : VR φ' v u) (ht : (gs (i + 1)).t = putA (gs i).t n o.dst v) :
  ∀ t q, q ≤ ops.size → (∀ j o, j < q → ops[j]? = some o → o.dst = some t → j = i ∨ E j) → (∀ j o, q ≤ j → ops[j]? = some o → o.dst = some t → ¬ (j = i ∨ E j)) → ∀ x, (gs q).t.get t = some x → ∃ y, (a.put o.dst u).tmps[t]? = some y ∧ VR φ' x y := by
 intro t q hq h1 h2 x hx
 have hsz := (Array.getElem?_eq_some_iff.1 ho).1
 by_cases hd : o.dst = some t
 ·have hqi : i < q := by
   rcases Nat.lt_or_ge i q with h | h
   ·exact h
   ·exact absurd (.inl rfl) (h2 i o h ho hd)
  have hno : ∀ k o', i + 1 ≤ k → k < q → ops[k]? = some o' → o'.dst ≠ some t := by
   intro k o' hk hkq ho' hd'
   rcases h1 k o' hkq ho' hd' with h | h
   ·omega
   ·exact hi (hc.anc reg.fwd k i o' ho' h (reg.write i k o o' t (by omega) ho ho' hd hd'))
  rw [walk_t_range hw (show i + 1 ≤ q by omega) hq hno, ht, hd] at hx
  rw [hd]
  unfold putA at hx
  simp only at hx
  split at hx
  ·rename_i hlt
   have hlt := blt_true hlt
   simp at hx
   subst hx
   exact ⟨u, by simp [Act.put, inv.size, hlt], hv⟩
  ·rename_i hlt
   have hex := inv.tmps t i (by omega) (fun j o' hj ho' hd' => hc.ready reg.fwd ho hready (reg.write j i o' o t hj ho' ho hd' hd)) (fun j o' hj ho' hd' hE => by
    rcases Nat.eq_or_lt_of_le hj with rfl | hj
    ·exact hi hE
    ·exact hi (hc.anc reg.fwd j i o' ho' hE (reg.write i j o o' t hj ho ho' hd hd'))) x hx
   obtain ⟨y, g1, g2⟩ := hex
   have := (Array.getElem?_eq_some_iff.1 g1).1
   rw [inv.size] at this
   have hb : Nat.blt t n = true := by simpa [Nat.blt, Nat.ble_eq] using (show t + 1 ≤ n from this)
   rw [hb] at hlt
   simp at hlt
 ·obtain ⟨y, g1, g2⟩ := inv.tmps t q hq (fun j o' hj ho' hd' => (h1 j o' hj ho' hd').resolve_left (by rintro rfl; rw [ho] at ho'; simp at ho'; subst ho'; exact hd hd')) (fun j o' hj ho' hd' hE => h2 j o' hj ho' hd' (.inr hE)) x hx
  refine ⟨y, ?_, g2.mono hle⟩
  cases hdd : o.dst with
  | none => exact g1
  | some d =>
   have : d ≠ t := by rintro rfl; exact hd hdd
   simp only [Act.put]
   rw [Array.getElem?_setIfInBounds_ne this]
   exact g1
theorem inv_read (reg : RegR ops) (hw : Walk P D ops base n gs) (h0' : (gs 0).pend = []) (hc : Closed ops E) {i : Nat} {o : Oper} (ho : ops[i]? = some o) (hready : ∀ e, e ∈ o.after → Region.binds .any e = true → E e.on) (hi : ¬ E i)
  {p : Nat} (hps : p ≤ ops.size) (hp : ∀ j, hv D ops gs j → (j < p ↔ E j)) {T : PT AV} {v : AV} (hni : ¬ hv D ops gs i)
  (h : readAt D T { (gs i).s with h := flush ((masks ops.toList)[i]?.getD 0) (gs i).pend (gs i).s.h } o.op = some v) (hpast : PastP D T o.op ((masks ops.toList)[i]?.getD 0) (gs i).pend v (gs i).past)
  (hmem : (i, o.op, T, v) ∈ (gs (i + 1)).reads) :
  ∃ PL, (∀ j b ob, (j, b, ob) ∈ PL → bitOf ((masks ops.toList)[i]?.getD 0) j = true → b = base + j ∧ Pend D ops gs base E p j ob) ∧ readAt D T { (gs p).s with h := flush ((masks ops.toList)[i]?.getD 0) PL (gs p).s.h } o.op = some v := by
 have hsz := (Array.getElem?_eq_some_iff.1 ho).1
 have hE : ∀ j, anc ops i j = true → E j := fun j hj => hc.ready reg.fwd ho hready hj
 by_cases hA : ∃ k, p ≤ k ∧ k < i ∧ hv D ops gs k
 ·obtain ⟨k0, a1, a2, a3⟩ := hA
  have g1 := past_read hw (p := p) i (by omega) (by omega) hpast (fun k h1 h2 h3 => by
   cases hb : bitOf ((masks ops.toList)[i]?.getD 0) k with
   | false => rfl
   | true =>
    have := (hp k h3).2 (hE k hb)
    omega) ⟨k0, a1, a2, a3⟩
  refine ⟨(gs i).pend, fun j b ob hm hb => ?_, g1⟩
  obtain ⟨q1, q2, q3, q4⟩ := walk_pend hw reg.fwd h0' i (by omega) hm
  exact ⟨q2, hE j hb, q3, fun k hk hh => q4 k (by omega) hh⟩
 ·by_cases hB : ∃ k, i < k ∧ k < p ∧ hv D ops gs k
  ·have hip : i + 1 ≤ p := by obtain ⟨k, h1, h2, _⟩ := hB; omega
   obtain ⟨_, g2⟩ := next_read hw (i := i) p hip hps hmem (fun k h1 h2 h3 => by
    cases hb : anc ops k i with
    | false => rfl
    | true => exact absurd (hc.anc reg.fwd k i ops[k] (by simp [show k < ops.size by omega]) ((hp k h3).1 h2) hb) hi)
   obtain ⟨k, a1, a2, a3, a4, a5⟩ := g2 hB
   refine ⟨(gs (k + 1)).pend, fun j b ob hm hb => ?_, a5⟩
   obtain ⟨q1, q2, q3, q4⟩ := walk_pend hw reg.fwd h0' (k + 1) (by omega) hm
   refine ⟨q2, hE j hb, q3, fun k' hk' hh => q4 k' ?_ hh⟩
   rcases Nat.lt_or_ge k' (k + 1) with h | h
   ·exact h
   ·exact absurd hh (a4 k' (by omega) hk')
  ·have hs : (gs p).s = (gs i).s := by
    rcases Nat.le_total p i with h | h
    ·exact (walk_s_range hw h (by omega) fun k h1 h2 h3 => hA ⟨k, h1, h2, h3⟩).symm
    ·refine walk_s_range hw h hps fun k h1 h2 h3 => ?_
     rcases Nat.eq_or_lt_of_le h1 with rfl | h1
     ·exact hni h3
     ·exact hB ⟨k, h1, h2, h3⟩
   refine ⟨(gs i).pend, fun j b ob hm hb => ?_, by rw [hs]; exact h⟩
   obtain ⟨q1, q2, q3, q4⟩ := walk_pend hw reg.fwd h0' i (by omega) hm
   refine ⟨q2, hE j hb, q3, fun k hk hh => q4 k ?_ hh⟩
   rcases Nat.lt_trichotomy k i with h | h | h
   ·exact h
   ·rw [h] at hh; exact absurd hh hni
   ·exact absurd ⟨k, h, hk, hh⟩ hB
theorem exec (hD : TabOk P D) (reg : RegR ops) (hw : Walk P D ops base n gs) (h0 : (gs 0).past = []) (h0' : (gs 0).pend = []) (hbase : s0.nx ≤ base ∧ GB ≤ base) (hc : Closed ops E) {i : Nat} {o : Oper} (ho : ops[i]? = some o)
  (hready : ∀ e, e ∈ o.after → Region.binds .any e = true → E e.on) (hi : ¬ E i) (inv : Inv D ops gs base n φ0 s0 w0 E φ a w) (b : Frame) (k : List Item) (cs : List Frame) (rest : List Nat) :
  ∃ φ' u w', Steps P (lone (b.atR a (.inRegion ops (i :: rest) :: k)) cs w) (lone (b.atR (a.put o.dst u) (.inRegion ops rest :: k)) cs w') ∧ Inv D ops gs base n φ0 s0 w0 (fun j => j = i ∨ E j) φ' (a.put o.dst u) w' := by
 have hsz := (Array.getElem?_eq_some_iff.1 ho).1
 have hT : TR φ (cut (gs i).t (looksOf ops o)) a.tmps := fun t x hx => by
  obtain ⟨h1, h2⟩ := cut_get hx
  exact inv.at reg hc ho hready hi h1 h2
 have hEa : ∀ j, anc ops i j = true → E j := fun j hj => hc.ready reg.fwd ho hready hj
 obtain ⟨p, hps, hp, hh⟩ := inv.heap
 have hone := hw i o ho
 generalize hgg : gs (i + 1) = g' at hone
 have hsize : ∀ u, (a.put o.dst u).tmps.size = n := fun u => by rw [Act.size_put]; exact inv.size
 cases hone with
 | skip hg =>
  have hwant := guardOk_ok hT hg
  have hs := stepR_op_skip (P := P) (b := b) (a := a) (k := k) (cs := cs) (w := w) (ops := ops) (i := i) (rest := rest) (by simp [ho, hwant])
  simp only [ho, Option.bind_some] at hs
  have hnh := not_hv (D := D) (gs := gs) ho (.inl (by rw [hg]; simp))
  exact ⟨φ, undef, w, .one hs, tmps_step reg hw hc ho hready hi inv (Phi.le.rfl' φ) VR.undef (by rw [hgg]), hsize _,
   p, hps, front_step hp hnh, hh.grow (fun _ => Iff.rfl) (not_alloc ho (.inl (by rw [hg]; simp)))⟩
 | pure v s' hg hk hop =>
  have hwant := guardOk_ok hT hg
  have hop' := pure_any hk hop (gs p).s
  obtain ⟨v', s'', ⟨rfl, rfl⟩, φ', u, w', q1, q2, q3, q4⟩ := OperA.val (K := fun v' s'' => v' = v ∧ s'' = (gs p).s) hD hop' ⟨rfl, rfl⟩ φ a w b k cs ops i rest ho hwant hT hh.rel
  have hnh := not_hv (D := D) (gs := gs) ho (.inr (by rw [hk]; simp))
  exact ⟨φ', u, w', q4, tmps_step reg hw hc ho hready hi inv q1.ext q3 (by rw [hgg]), hsize _,
   p, hps, front_step hp hnh, (hh.quiet (h' := (gs p).s.h) (fun b o h => .inl h) (fun b o h => h) q1 q2).grow (fun _ => Iff.rfl) (not_alloc ho (.inr (by rw [hk]; simp)))⟩
 | read v hg hk hop hpast =>
  have hwant := guardOk_ok hT hg
  have hnh := not_hv (D := D) (gs := gs) ho (.inr (by rw [hk]; simp))
  obtain ⟨PL, hPL, hr⟩ := inv_read reg hw h0' hc ho hready hi hps hp hnh hop hpast (by rw [hgg]; exact List.mem_cons_self ..)
  obtain ⟨s', hr⟩ := readAt_ok hr
  have := read_same hk hr
  subst this
  have H : ∀ b o, (flush ((masks ops.toList)[i]?.getD 0) PL (gs p).s.h).get b = some o → (gs p).s.h.get b = some o ∨ ∃ j, b = base + j ∧ Pend D ops gs base E p j o := by
   intro b o hb
   rcases flush_get hb with h | ⟨j, h1, h2⟩
   ·exact .inl h
   ·exact .inr ⟨j, hPL j b o h1 h2⟩
  have Hold : ∀ b o, (gs p).s.h.get b = some o → (flush ((masks ops.toList)[i]?.getD 0) PL (gs p).s.h).get b = some o := by
   intro b o hb
   rw [flush_old]
   ·exact hb
   ·intro j ob hm
    cases hbit : bitOf ((masks ops.toList)[i]?.getD 0) j with
    | false => rfl
    | true =>
     obtain ⟨rfl, hj⟩ := hPL j b ob hm hbit
     obtain ⟨r, ro, g1, g2, g3, g4, g5⟩ := hh.pend j ob hj
     exact absurd g1 (g5 _ 0 (by simp [hb]))
  obtain ⟨f1, f2, f3⟩ := hh.flush H
  obtain ⟨v', s'', ⟨rfl, rfl⟩, φ', u, w', q1, q2, q3, q4⟩ := OperA.val (K := fun v' s'' => v' = v ∧ s'' = _) hD hr ⟨rfl, rfl⟩ φ a w b k cs ops i rest ho hwant hT f1
  exact ⟨φ', u, w', q4, tmps_step reg hw hc ho hready hi inv q1.ext q3 (by rw [hgg]), hsize _,
   p, hps, front_step hp hnh, (hh.quiet H Hold q1 q2).grow (fun _ => Iff.rfl) (not_alloc ho (.inr (by rw [hk]; simp)))⟩
 | alloc v s' ob hg hk hop hob =>
  have hwant := guardOk_ok hT hg
  have hnh := not_hv (D := D) (gs := gs) ho (.inr (by rw [hk]; simp))
  obtain ⟨ob', ro, u, e1, e2, e3, e4⟩ := alloc_raw hD hk hop hh.rel (EvR.of_act hT)
  have : ob' = ob := by
   rw [e1] at hob
   simpa using hob
  subst this
  obtain ⟨m1, m2⟩ := hh.made hsz hi ⟨o, v, s', ho, hg, hk, hop, hob⟩ e2 hbase (E' := fun j => j = i ∨ E j) (fun _ => Iff.rfl)
  have hvr := e3 (φ.setB (base + i) (w.heap.size, 0)) (by simp [Phi.setB])
  refine ⟨_, u, { w with heap := w.heap.push ro }, .one (step_lone_go ?_), tmps_step reg hw hc ho hready hi inv m2 hvr (by rw [hgg]), hsize _,
   p, hps, front_step hp hnh, m1⟩
  have hst := stepGR_op (P := P) (b := b) (k := k) (cs := cs) (w := w) (rest := rest) ho hwant
  have hfin : ∀ v, (b.atR a (.inRegion ops (i :: rest) :: k)).finish v = b.atR (a.put o.dst v) (.inRegion ops rest :: k) := by
   intro v; rw [Frame.finish_atR, ho]; rfl
  rw [Oper.semAt_eq _ _ _ (opA_nodefer hop)] at hst
  rw [hst, ← hfin]
  simp [stepG.apply, e4]
 | heavy v s' hg hk hpast hop hreads =>
  have hwant := guardOk_ok hT hg
  have hhv : hv D ops gs i := ⟨o, ho, hg, hk⟩
  have hchain := walk_chain hw h0 (E := E) (fun i' j hh' hE hb => hc.anc reg.fwd i' j ops[i']! (by
   obtain ⟨o', ho', _⟩ := hh'
   have := (Array.getElem?_eq_some_iff.1 ho').1
   simp [this]) hE hb)
  have hbelow : ∀ j, j < i → hv D ops gs j → E j := fun j hj hh' => hchain i hhv hEa j hj hh'
  have habove : ∀ j, i < j → hv D ops gs j → ¬ E j := by
   intro j hj hh' hE
   refine hi (hchain j hh' (fun j' hb => ?_) i hj hhv)
   obtain ⟨o', ho', _⟩ := hh'
   exact hc.anc reg.fwd j j' o' ho' hE hb
  have hfront : ∀ j, hv D ops gs j → (j < p ↔ j < i) := by
   intro j hj
   rw [hp j hj]
   constructor
   ·intro hE
    rcases Nat.lt_trichotomy j i with h | h | h
    ·exact h
    ·rw [h] at hE; exact absurd hE hi
    ·exact absurd hE (habove j h hj)
   ·intro h; exact hbelow j h hj
  have hs : (gs i).s = (gs p).s := by
   rcases Nat.le_total p i with h | h
   ·exact walk_s_range hw h (by omega) fun k h1 h2 h3 => by have := (hfront k h3).2 h2; omega
   ·exact (walk_s_range hw h hps fun k h1 h2 h3 => by have := (hfront k h3).1 h2; omega).symm
  have hh' := hh.move hs hfront
  have hPL : ∀ j b ob, (j, b, ob) ∈ (gs i).pend → bitOf ((masks ops.toList)[i]?.getD 0) j = true → b = base + j ∧ Pend D ops gs base E i j ob := by
   intro j b ob hm hb
   obtain ⟨q1, q2, q3, q4⟩ := walk_pend hw reg.fwd h0' i (by omega) hm
   exact ⟨q2, hEa j hb, q3, q4⟩
  have H : ∀ b o, (flush ((masks ops.toList)[i]?.getD 0) (gs i).pend (gs i).s.h).get b = some o → (gs i).s.h.get b = some o ∨ ∃ j, b = base + j ∧ Pend D ops gs base E i j o := by
   intro b o hb
   rcases flush_get hb with h | ⟨j, h1, h2⟩
   ·exact .inl h
   ·exact .inr ⟨j, hPL j b o h1 h2⟩
  obtain ⟨f1, f2, f3⟩ := hh'.flush H
  obtain ⟨v', s'', ⟨rfl, rfl⟩, φ', u, w', q1, q2, q3, q4⟩ := hop φ a w b k cs ops i rest ho hwant hT f1
  have hgs : (gs (i + 1)).s = s'' := by rw [hgg]
  refine ⟨φ', u, w', q4, tmps_step reg hw hc ho hready hi inv q1.ext q3 (by rw [hgg]), hsize _, i + 1, by omega, ?_, ?_⟩
  ·intro j hj
   constructor
   ·intro h
    rcases Nat.eq_or_lt_of_le (Nat.le_of_lt_succ h) with h | h
    ·exact .inl h
    ·exact .inr (hbelow j h hj)
   ·rintro (h | h)
    ·omega
    ·rcases Nat.lt_or_ge j (i + 1) with h' | h'
     ·exact h'
     ·exact absurd h (habove j h' hj)
  ·refine hh'.change H (by rw [hgs]; exact q1) (by rw [hgs]; exact q2) (E' := fun j => j = i ∨ E j) (fun j h => .inr h) ?_
   rintro j ob ⟨h1, h2, h3⟩
   have hji : j ≠ i := by
    rintro rfl
    exact not_alloc ho (.inr (by rw [hk]; simp)) ob h2
   have hjE : E j := h1.resolve_left hji
   have hpd : Pend D ops gs base E i j ob := ⟨hjE, h2, fun k hk hh' => h3 k (by omega) hh'⟩
   refine ⟨hpd, ?_⟩
   obtain ⟨r, ro, g1, g2, g3, g4, g5⟩ := hh'.pend j ob hpd
   rw [flush_old]
   ·cases hx : (gs i).s.h.get (base + j) with
    | none => rfl
    | some x => exact absurd g1 (g5 _ 0 (by simp [hx]))
   ·intro j' ob' hm
    cases hbit : bitOf ((masks ops.toList)[i]?.getD 0) j' with
    | false => rfl
    | true =>
     obtain ⟨e, _⟩ := hPL j' _ ob' hm hbit
     have : j' = j := by omega
     subst this
     have := h3 i (by omega) hhv
     unfold anc at this
     rw [hbit] at this
     simp at this
theorem draw_go (hD : TabOk P D) (reg : RegR ops) (hw : Walk P D ops base n gs) (h0 : (gs 0).past = []) (h0' : (gs 0).pend = []) (hbase : s0.nx ≤ base ∧ GB ≤ base) (b : Frame) (k : List Item) (cs : List Frame) :
  ∀ (fuel t : Nat) (listed : Array Bool) (φ : Phi) (a : Act) (w : World), listed.size = ops.size → left listed ≤ fuel → Closed ops (done listed) → Inv D ops gs base n φ0 s0 w0 (done listed) φ a w →
   ∃ φ' a' w', Steps P (lone (b.atR a (.inRegion ops (Region.linearise.go .any ops fuel t listed []) :: k)) cs w) (lone (b.atR a' k) cs w') ∧ a'.defers = a.defers ∧ ∃ E, (∀ j, j < ops.size → E j) ∧ Inv D ops gs base n φ0 s0 w0 E φ' a' w'
 | fuel, t, listed, φ, a, w, hsz, hleft, hc, inv => by
  have hend : Region.ready .any ops listed = [] → Region.linearise.go .any ops fuel t listed [] = [] → ∃ φ' a' w', Steps P (lone (b.atR a (.inRegion ops (Region.linearise.go .any ops fuel t listed []) :: k)) cs w) (lone (b.atR a' k) cs w') ∧ a'.defers = a.defers ∧ ∃ E, (∀ j, j < ops.size → E j) ∧ Inv D ops gs base n φ0 s0 w0 E φ' a' w' := by
   intro hr hl
   rw [hl]
   exact ⟨φ, a, w, .one stepR_region_end, rfl, done listed, all_done reg.fwd hsz hr, inv⟩
  cases fuel with
  | zero =>
   refine hend ?_ (by simp [Region.linearise.go])
   cases hr : Region.ready .any ops listed with
   | nil => rfl
   | cons i r =>
    exfalso
    have hm : i ∈ Region.ready .any ops listed := by rw [hr]; exact List.mem_cons_self ..
    obtain ⟨g1, o, g2, g3⟩ := mem_ready.1 hm
    have hi : i < listed.size := by rw [hsz]; exact (Array.getElem?_eq_some_iff.1 g2).1
    have := left_set hi g1
    omega
  | succ fuel =>
   simp only [Region.linearise.go] at hend ⊢
   change (Region.ready .any ops listed = [] → (match (Region.ready .any ops listed)[t % (Region.ready .any ops listed).length]? with
    | some i => Region.linearise.go .any ops fuel (t / (Region.ready .any ops listed).length) (listed.setIfInBounds i true) [i]
    | none => [].reverse) = [] → _) at hend
   change ∃ φ' a' w', Steps P (lone (b.atR a (.inRegion ops (match (Region.ready .any ops listed)[t % (Region.ready .any ops listed).length]? with
    | some i => Region.linearise.go .any ops fuel (t / (Region.ready .any ops listed).length) (listed.setIfInBounds i true) [i]
    | none => [].reverse) :: k)) cs w) (lone (b.atR a' k) cs w') ∧ _
   cases hi : (Region.ready .any ops listed)[t % (Region.ready .any ops listed).length]? with
   | none =>
    have hnil : Region.ready .any ops listed = [] := by
     cases hr : Region.ready .any ops listed with
     | nil => rfl
     | cons x xs =>
      rw [hr] at hi
      have hlt : t % (x :: xs).length < (x :: xs).length := Nat.mod_lt _ (by simp)
      simp at hi
      simp at hlt
      omega
    exact ⟨φ, a, w, .one stepR_region_end, rfl, done listed, all_done reg.fwd hsz hnil, inv⟩
   | some i =>
    simp only []
    rw [linearise_go_acc, List.reverse_singleton, List.singleton_append]
    have hm := List.mem_of_getElem? hi
    obtain ⟨g1, o, g2, g3⟩ := mem_ready.1 hm
    have hil : i < listed.size := by rw [hsz]; exact (Array.getElem?_eq_some_iff.1 g2).1
    have hnd : ¬ done listed i := by
     unfold done
     intro h
     simp [Array.getD_eq_getD_getElem?, h] at g1
    have hrd : ∀ e, e ∈ o.after → Region.binds .any e = true → done listed e.on := by
     intro e he hb
     have := g3 e he hb
     unfold done
     rw [Array.getD_eq_getD_getElem?] at this
     cases hx : listed[e.on]? with
     | none => rw [hx] at this; simp at this
     | some y => rw [hx] at this; simp at this; rw [this]
    have hE : (fun j => j = i ∨ done listed j) = done (listed.setIfInBounds i true) := by
     funext j
     unfold done
     by_cases e : j = i
     ·subst e
      simp [hil]
     ·simp [Array.getElem?_setIfInBounds_ne (Ne.symm e), e]
    obtain ⟨φ1, u, w1, q1, q2⟩ := exec hD reg hw h0 h0' hbase hc g2 hrd hnd inv b k cs (Region.linearise.go .any ops fuel (t / (Region.ready .any ops listed).length) (listed.setIfInBounds i true) [])
    rw [hE] at q2
    have hc' : Closed ops (done (listed.setIfInBounds i true)) := by
     rw [← hE]
     intro j hj o' ho' e he hb
     rcases hj with rfl | hj
     ·rw [g2] at ho'
      simp at ho'
      subst ho'
      exact .inr (hrd e he hb)
     ·exact .inr (hc j hj o' ho' e he hb)
    obtain ⟨φ2, a2, w2, r1, r2, E, r3, r4⟩ := draw_go hD reg hw h0 h0' hbase b k cs fuel (t / (Region.ready .any ops listed).length) (listed.setIfInBounds i true) φ1 _ w1 (by simpa using hsz)
     (by have := left_set hil g1; omega) hc' q2
    exact ⟨φ2, a2, w2, q1.trans r1, by rw [r2, Act.defers_put], E, r3, r4⟩
theorem draw_ok (hD : TabOk P D) (hmix : P.follows .mixedOrders = true) {cf : Cf} {g : Rg} (hreg : regOk ops = true) {gs : Nat → Rg} (e1 : gs 0 = { t := cf.t, s := { cf.s with nx := cf.s.nx + ops.size }, pend := [], past := [], reads := [] }) (e2 : gs ops.size = g)
  (hw : Walk P D ops cf.s.nx cf.n gs) (hc : CfR φ cf a w) (b : Frame) (k : List Item) (cs : List Frame) (id : Nat) :
  ∃ φ' a' w', Stp φ cf.s w φ' { g.s with h := flushAll g.pend g.s.h } w' ∧ CfR φ' { cf with t := g.t, s := { g.s with h := flushAll g.pend g.s.h } } a' w' ∧ Steps P (lone (b.atR a (.code (.region id ops true) :: k)) cs w) (lone (b.atR a' k) cs w') := by
 have reg := regOk_ok hreg
 have hstart := stepR_region_draw (P := P) (b := b) (a := a) (k := k) (cs := cs) (w := w) (ops := ops) (id := id)
 have hs0 : (gs 0).s = { cf.s with nx := cf.s.nx + ops.size } := by rw [e1]
 have hnone : ∀ j, ¬ done (Array.replicate ops.size false) j := by
  intro j hj
  unfold done at hj
  rw [Array.getElem?_replicate] at hj
  split at hj <;> simp at hj
 have hrel : Rel φ { cf.s with nx := cf.s.nx + ops.size } { w with drawn := w.drawn + 1 } :=
  have h := hc.s
  ⟨h.obj, h.inj, fun b hb => h.fresh b (by simp at hb; omega), h.freshc, h.glob, Nat.le_trans h.gnx (by simp), h.facts⟩
 have hstp : Stp φ cf.s w φ { cf.s with nx := cf.s.nx + ops.size } { w with drawn := w.drawn + 1 } :=
  ⟨Phi.le.rfl' φ, fun b r sh hb hr => .inr ⟨b, sh, hb, hr⟩, fun b r sh hb hr => .inr ⟨b, sh, hb, hr⟩, fun _ _ _ => rfl, Nat.le_refl _, rfl, rfl, rfl, by simp, Nat.le_refl _, fun _ _ => rfl, fun _ arr _ fz h => ⟨arr, fz, h, rfl⟩, fun _ => Nat.le_succ _⟩
 have hinv : Inv D ops gs cf.s.nx cf.n φ cf.s w (done (Array.replicate ops.size false)) φ a { w with drawn := w.drawn + 1 } := by
  refine ⟨fun t q hq h1 h2 x hx => ?_, hc.n, 0, Nat.zero_le _, fun j _ => ⟨fun h => by omega, fun h => absurd h (hnone j)⟩, ⟨by rw [hs0]; exact hrel, by rw [hs0]; exact hstp, by rw [hs0]; exact Nat.le_refl _, ?_, ?_, ?_⟩⟩
  ·rw [walk_t_range hw (Nat.zero_le q) hq (fun k o _ hk ho hd => hnone k (h1 k o hk ho hd)), e1] at hx
   exact hc.t t x hx
  ·rintro j ob ⟨h1, _⟩; exact absurd h1 (hnone j)
  ·rintro j ob j' ob' r ⟨h1, _⟩; exact absurd h1 (hnone j)
  ·intro j _ _; exact hc.s.fresh _ (by omega)
 obtain ⟨φ', a', w', r1, r2, E, r3, r4⟩ := draw_go hD reg hw (by rw [e1]) (by rw [e1]) ⟨Nat.le_refl _, hc.s.gnx⟩ b k cs ops.size (w.tape w.drawn (.order b.fn id)) (Array.replicate ops.size false) φ a _ (by simp)
  (by unfold left; exact Nat.le_trans List.countP_le_length (by simp)) (fun i hi => absurd hi (hnone i)) hinv
 obtain ⟨p, hps, hp, hh⟩ := r4.heap
 have hs : (gs ops.size).s = (gs p).s := walk_s_range hw hps (Nat.le_refl _) fun k h1 h2 h3 => by
  have := (hp k h3).2 (r3 k h2)
  omega
 have hh' := hh.move (q := ops.size) hs (fun k hk => by
  have hk' : k < ops.size := by
   obtain ⟨o, ho, _⟩ := hk
   exact (Array.getElem?_eq_some_iff.1 ho).1
  exact ⟨fun _ => hk', fun _ => (hp k hk).2 (r3 k hk')⟩)
 obtain ⟨f1, f2, _⟩ := hh'.flush (h' := flushAll g.pend g.s.h) (by
  intro b o hb
  rcases flushAll_get hb with h | ⟨j, h1⟩
  ·rw [e2]; exact .inl h
  ·rw [← e2] at h1
   obtain ⟨q1, q2, q3, q4⟩ := walk_pend hw reg.fwd (by rw [e1]) ops.size (Nat.le_refl _) h1
   exact .inr ⟨j, q2, r3 j q1, q3, fun k hk hh => q4 k hk hh⟩)
 rw [e2] at f1 f2
 refine ⟨φ', a', w', f2, ⟨fun t x hx => ?_, r4.size, by rw [r2]; exact hc.ds.mono f2.ext, f1⟩, ?_⟩
 ·refine r4.tmps t ops.size (Nat.le_refl _) (fun j o hj _ _ => r3 j hj) (fun j o hj ho _ => ?_) x (by rw [e2]; exact hx)
  have := (Array.getElem?_eq_some_iff.1 ho).1
  omega
 ·refine .head hstart ?_
  rw [Region.schedule, hmix]
  simp only [Bool.true_or, if_true, Region.linearise]
  exact r1
end Go.Eng.Dr

namespace Go.Eng
noncomputable section
variable {P : Program} {D : Tab}
inductive CT where
 | int (k : IntKind)
 | bool
 | str
 | any
def ctOf : TD → CT
 | .int k => .int k
 | .bool => .bool
 | .string => .str
 | _ => .any
mutual
def ctsN (D : Tab) : Nat → TypeId → Option (List CT)
 | 0, _ => none
 | n + 1, t =>
  match D.ty.get t with
  | none => none
  | some i =>
   match i.d with
   | .struct fs => ctsFs D n fs
   | .array m e => (match Nat.ble m 64, ctsN D n e with | true, some l => some (List.flatten (List.replicate m l)) | _, _ => none)
   | d => some [ctOf d]
def ctsFs (D : Tab) : Nat → List (TypeId × Nat × Bool) → Option (List CT)
 | 0, _ => none
 | _ + 1, [] => some []
 | n + 1, f :: r =>
  match ctsN D n f.1, ctsFs D n r with
  | some a, some b => some (a ++ b)
  | _, _ => none
end
def exC : List CT → (List AV → Prop) → Prop
 | [], K => K []
 | .int k :: r, K => ∃ n : Int, exC r fun l => K (.int k n :: l)
 | .bool :: r, K => ∃ b : Bool, exC r fun l => K (.bool b :: l)
 | .str :: r, K => ∃ b : ByteArray, exC r fun l => K (.str b :: l)
 | .any :: r, K => ∃ v : AV, exC r fun l => K (v :: l)
theorem exC_ok : ∀ {l : List CT} {K : List AV → Prop}, exC l K → ∃ cs, K cs
 | [], _, h => ⟨[], h⟩
 | .int _ :: r, _, ⟨_, h⟩ => let ⟨_, h⟩ := exC_ok (l := r) h; ⟨_, h⟩
 | .bool :: r, _, ⟨_, h⟩ => let ⟨_, h⟩ := exC_ok (l := r) h; ⟨_, h⟩
 | .str :: r, _, ⟨_, h⟩ => let ⟨_, h⟩ := exC_ok (l := r) h; ⟨_, h⟩
 | .any :: r, _, ⟨_, h⟩ => let ⟨_, h⟩ := exC_ok (l := r) h; ⟨_, h⟩
def isAggT : TD → Bool
 | .struct _ => true
 | .array _ _ => true
 | _ => false
def exT (D : Tab) (t : TypeId) (K : AV → Prop) : Prop :=
 match D.ty.get t with
 | none => False
 | some i =>
  match isAggT i.d with
  | true => (match ctsN D 24 t with | some l => exC l fun cs => K (.agg cs) | none => ∃ v, K v)
  | false => exC [ctOf i.d] fun cs => match cs with | [v] => K v | _ => False
theorem exT_ok {t : TypeId} {K : AV → Prop} (h : exT D t K) : ∃ v, K v := by
 unfold exT at h
 split at h
 ·exact h.elim
 ·split at h
  ·split at h
   ·obtain ⟨cs, h⟩ := exC_ok h; exact ⟨_, h⟩
   ·exact h
  ·obtain ⟨cs, h⟩ := exC_ok h
   split at h
   ·exact ⟨_, h⟩
   ·exact h.elim
def exTs (D : Tab) : List TypeId → (List AV → Prop) → Prop
 | [], K => K []
 | t :: r, K => exT D t fun v => exTs D r fun l => K (v :: l)
theorem exTs_ok : ∀ {l : List TypeId} {K : List AV → Prop}, exTs D l K → ∃ cs, K cs
 | [], _, h => ⟨[], h⟩
 | _ :: r, _, h => by
  obtain ⟨v, h⟩ := exT_ok h
  obtain ⟨l, h⟩ := exTs_ok (l := r) h
  exact ⟨_, h⟩
def exRes (D : Tab) (ts : List TypeId) (K : AV → Prop) : Prop := exTs D ts fun vs => K (oneOf vs)
theorem exRes_ok {ts : List TypeId} {K : AV → Prop} (h : exRes D ts K) : ∃ v, K v := by
 obtain ⟨l, h⟩ := exTs_ok h
 exact ⟨_, h⟩
def optK (x : Option AV) (K : AV → Prop) : Prop :=
 match x with
 | some v => K v
 | none => False
theorem optK_ok {x : Option AV} {K : AV → Prop} (h : optK x K) : ∃ v, x = some v ∧ K v := by
 unfold optK at h
 split at h
 ·exact ⟨_, rfl, h⟩
 ·exact h.elim
def bsel (b : Bool) (x y : Prop) : Prop :=
 match b with
 | true => x
 | false => y
theorem bsel_ok {b : Bool} {x y : Prop} (h : bsel b x y) : (b = true ∧ x) ∨ (b = false ∧ y) := by
 cases b with
 | true => exact .inl ⟨rfl, h⟩
 | false => exact .inr ⟨rfl, h⟩
theorem bsel_of {b : Bool} {x y : Prop} (h1 : b = true → x) (h2 : b = false → y) : bsel b x y := by
 cases b with
 | true => exact h1 rfl
 | false => exact h2 rfl
@[simp] theorem bsel_true {x y : Prop} : bsel true x y = x := rfl
@[simp] theorem bsel_false {x y : Prop} : bsel false x y = y := rfl
def oneK (v : AV) (R : Prop) : Prop :=
 match v with
 | .agg _ => False
 | _ => R
theorem oneK_ok {v : AV} {R : Prop} (h : oneK v R) : v.cells = [v] ∧ R := by
 cases v <;> first | exact h.elim | exact ⟨rfl, h⟩
def evK (T : PT AV) (x : Operand) (K : AV → Prop) : Prop := optK (ev T x) K
def evsK (T : PT AV) : List Operand → (List AV → Prop) → Prop
 | [], K => K []
 | x :: r, K => evK T x fun v => evsK T r fun l => K (v :: l)
theorem evsK_ok {T : PT AV} : ∀ {l : List Operand} {K : List AV → Prop}, evsK T l K → ∃ vs, evAll T l = some vs ∧ K vs
 | [], _, h => ⟨[], rfl, h⟩
 | x :: r, K, h => by
  obtain ⟨v, h1, h⟩ := optK_ok h
  obtain ⟨vs, h2, h⟩ := evsK_ok (l := r) h
  exact ⟨v :: vs, by simp [evAll, h1, h2], h⟩
def evoK (T : PT AV) (x : Option Operand) (K : Option AV → Prop) : Prop :=
 match x with
 | none => K none
 | some x => evK T x fun v => K (some v)
theorem evoK_ok {T : PT AV} {x : Option Operand} {K : Option AV → Prop} (h : evoK T x K) : ∃ v, evOpt T x = some v ∧ K v := by
 unfold evoK at h
 split at h
 ·exact ⟨none, rfl, h⟩
 ·obtain ⟨v, h1, h⟩ := optK_ok h
  exact ⟨some v, by simp [evOpt, h1], h⟩
def ld1 (s : St) (p : AV) : Option AV :=
 match p with
 | .ptr b o => (match s.h.get b with | some (.cells c n _) => if Nat.blt o n then c.get o else none | _ => none)
 | _ => none
def ldN (s : St) (p : AV) (m : Nat) : Option (List AV) :=
 match p with
 | .ptr b o => (match s.h.get b with | some (.cells c n _) => if Nat.ble (o + m) n then c.getAll o m else none | _ => none)
 | _ => none
def wrN (s : St) (p : AV) (vs : List AV) : Option St :=
 match p with
 | .ptr b o => writeAll s b o vs
 | _ => none
theorem ld1_ok {s : St} {p v : AV} {t : TypeId} {i : TyI} (h : ld1 s p = some v) (hi : D.ty.get t = some i) (ha : isAggT i.d = false) : loadX D s t p = some v := by
 unfold ld1 at h
 split at h
 ·rename_i b o
  split at h
  ·rename_i c n tl hb
   have : rowAt s.h (.ptr b o) = none := by simp [rowAt, hb]
   unfold loadX
   rw [this]
   simp only [loadA, hi, hb]
   split
   ·rename_i hd; rw [hd] at ha; simp [isAggT] at ha
   ·rename_i hd; rw [hd] at ha; simp [isAggT] at ha
   ·exact h
  ·simp at h
 ·simp at h
theorem ldN_ok {s : St} {p : AV} {vs : List AV} {t : TypeId} {i : TyI} (h : ldN s p i.size = some vs) (hi : D.ty.get t = some i) (ha : isAggT i.d = true) : loadX D s t p = some (.agg vs) := by
 unfold ldN at h
 split at h
 ·rename_i b o
  split at h
  ·rename_i c n tl hb
   have : rowAt s.h (.ptr b o) = none := by simp [rowAt, hb]
   unfold loadX
   rw [this]
   simp only [loadA, hi, hb]
   split at h
   ·rename_i hn
    split
    ·simp [hn, h]
    ·simp [hn, h]
    ·rename_i h1 h2
     unfold isAggT at ha
     split at ha
     ·rename_i fs hd; exact absurd hd (h1 fs)
     ·rename_i k e hd; exact absurd hd (h2 k e)
     ·simp at ha
   ·simp at h
  ·simp at h
 ·simp at h
theorem wrN_ok {s s' : St} {p v : AV} {t : TypeId} {i : TyI} (h : wrN s p v.cells = some s') (hi : D.ty.get t = some i) (hn : v.cells.length = i.size) : storeX D s t p v = some s' := by
 unfold wrN at h
 split at h
 ·rename_i b o
  have : rowAt s.h (.ptr b o) = none := by
   unfold writeAll at h
   split at h
   ·rename_i c n tl hb; simp [rowAt, hb]
   ·simp at h
  unfold storeX
  rw [this]
  simp only [storeA, hi, hn]
  simpa using h
 ·simp at h
def ldK (D : Tab) (s : St) (t : TypeId) (p : AV) (K : AV → Prop) : Prop :=
 match D.ty.get t with
 | none => False
 | some i =>
  match isAggT i.d with
  | true => (match ctsN D 24 t with | some l => exC l fun cs => ldN s p i.size = some cs ∧ K (.agg cs) | none => ∃ cs, ldN s p i.size = some cs ∧ K (.agg cs))
  | false => exC [ctOf i.d] fun cs => match cs with | [v] => ld1 s p = some v ∧ K v | _ => False
theorem ldK_ok {s : St} {t : TypeId} {p : AV} {K : AV → Prop} (h : ldK D s t p K) : ∃ v, loadX D s t p = some v ∧ K v := by
 unfold ldK at h
 split at h
 ·exact h.elim
 ·rename_i i hi
  split at h
  ·rename_i ha
   have : ∃ cs, ldN s p i.size = some cs ∧ K (.agg cs) := by
    split at h
    ·exact exC_ok h
    ·exact h
   obtain ⟨cs, h1, h2⟩ := this
   exact ⟨_, ldN_ok h1 hi ha, h2⟩
  ·rename_i ha
   obtain ⟨cs, h⟩ := exC_ok h
   split at h
   ·exact ⟨_, ld1_ok h.1 hi ha, h.2⟩
   ·exact h.elim
def stK (D : Tab) (s : St) (t : TypeId) (p v : AV) (K : St → Prop) : Prop :=
 match D.ty.get t with
 | none => False
 | some i =>
  match isAggT i.d with
  | true => (match v with | .agg cs => (match Nat.beq cs.length i.size with | true => ∃ s', wrN s p cs = some s' ∧ K s' | false => False) | _ => False)
  | false => (match Nat.beq i.size 1 with | true => oneK v (∃ s', wrN s p [v] = some s' ∧ K s') | false => False)
theorem stK_ok {s : St} {t : TypeId} {p v : AV} {K : St → Prop} (h : stK D s t p v K) : ∃ s', storeX D s t p v = some s' ∧ K s' := by
 unfold stK at h
 split at h
 ·exact h.elim
 ·rename_i i hi
  split at h
  ·split at h
   ·rename_i cs
    split at h
    ·rename_i hn
     obtain ⟨s', h1, h2⟩ := h
     exact ⟨s', wrN_ok (v := .agg cs) h1 hi (beq_true hn), h2⟩
    ·exact h.elim
   ·exact h.elim
  ·split at h
   ·rename_i hn
    obtain ⟨h0, s', h1, h2⟩ := oneK_ok h
    exact ⟨s', wrN_ok (by rw [h0]; exact h1) hi (by rw [h0]; simp [beq_true hn]), h2⟩
   ·exact h.elim
mutual
def aeqS (D : Tab) : Nat → TypeId → AV → AV → Option Bool
 | 0, _, _, _ => none
 | d + 1, t, x, y =>
  match D.ty.get t with
  | none => none
  | some i =>
   match i.d with
   | .bool => eqBool x y
   | .int _ => eqInt x y
   | .string => eqStr x y
   | .struct fs => if i.held then none else aeqsS D d fs x y
   | _ => none
def aeqsS (D : Tab) : Nat → List (TypeId × Nat × Bool) → AV → AV → Option Bool
 | 0, _, _, _ => none
 | d + 1, fs, x, y =>
  match fs with
  | [] => (match x, y with | .agg _, .agg _ => some true | _, _ => none)
  | f :: r =>
   match f.2.2 with
   | false => aeqsS D d r x y
   | true =>
    match D.ty.get f.1 with
    | none => none
    | some i =>
     match fieldOf i x f.2.1, fieldOf i y f.2.1 with
     | some a, some b =>
      match aeqS D d f.1 a b, aeqsS D d r x y with
      | some p, some q => some (p && q)
      | _, _ => none
     | _, _ => none
end
mutual
theorem aeqS_ok {h : PT AObj} : ∀ {d : Nat} {t : TypeId} {x y : AV} {r : Bool}, aeqS D d t x y = some r → aeq D h d t x y = some r
 | 0, _, _, _, _, e => by simp [aeqS] at e
 | d + 1, t, x, y, r, e => by
  simp only [aeqS] at e
  simp only [aeq]
  split at e
  ·simp at e
  ·rename_i i hi
   simp only [hi]
   split at e <;> rename_i hd <;> (try simp only [hd]) <;> first | exact e | (simp at e; done) | skip
   split at e
   ·simp at e
   ·rename_i hh
    rw [if_neg hh]
    exact aeqsS_ok e
theorem aeqsS_ok {h : PT AObj} : ∀ {d : Nat} {fs : List (TypeId × Nat × Bool)} {x y : AV} {r : Bool}, aeqsS D d fs x y = some r → aeqs D h d fs x y = some r
 | 0, _, _, _, _, e => by simp [aeqsS] at e
 | d + 1, fs, x, y, r, e => by
  cases fs with
  | nil =>
   simp only [aeqsS] at e
   simp only [aeqs]
   cases x <;> cases y <;> first | exact e | (simp at e; done)
  | cons f fs =>
   obtain ⟨t, off, named⟩ := f
   simp only [aeqsS] at e
   simp only [aeqs]
   cases named with
   | false => exact aeqsS_ok e
   | true =>
    simp only at e ⊢
    split at e
    ·simp at e
    ·rename_i i hi
     simp only [hi]
     split at e
     ·rename_i a b ha hb
      simp only [ha, hb]
      split at e
      ·rename_i p q hp hq
       have h1 := aeqS_ok (h := h) hp
       have h2 := aeqsS_ok (h := h) hq
       rw [h1]
       cases p with
       | true => simp only []; rw [h2]; simpa using e
       | false => simpa using e
      ·simp at e
     ·simp at e
end
def nilT (d : TD) (v : AV) : Option Bool :=
 match d with
 | .ptr _ => (match v with | .nilptr => some true | .ptr _ _ => some false | _ => none)
 | .slice _ => (match v with | .nilslice => some true | .slice .. => some false | .slice0 _ => some false | _ => none)
 | .map _ _ => (match v with | .nilmap => some true | .map _ => some false | _ => none)
 | .func => (match v with | .nilFunc => some true | .func .. => some false | _ => none)
 | _ => none
def isNilLit : AV → Bool
 | .nilptr => true
 | .nilslice => true
 | .nilmap => true
 | .nilFunc => true
 | _ => false
theorem nilT_ok {h : PT AObj} {t : TypeId} {i : TyI} {v : AV} {r : Bool} (hi : D.ty.get t = some i) (e : nilT i.d v = some r) : ∃ z, isNilLit z = true ∧ (∀ z', isNilLit z' = true → (match i.d, z' with | .ptr _, .nilptr => true | .slice _, .nilslice => true | .map _ _, .nilmap => true | .func, .nilFunc => true | _, _ => false) = true → aeq D h depth t v z' = some r ∧ aeq D h depth t z' v = some r) := by
 refine ⟨.nilptr, rfl, fun z' _ hm => ?_⟩
 unfold nilT at e
 split at e <;> rename_i hd
 ·rw [hd] at hm
  cases z' <;> simp at hm
  split at e <;> simp at e <;> subst e <;> simp [aeq, depth, hi, hd, eqPtr]
 ·rw [hd] at hm
  cases z' <;> simp at hm
  split at e <;> simp at e <;> subst e <;> simp [aeq, depth, hi, hd, eqSlice]
 ·rw [hd] at hm
  cases z' <;> simp at hm
  split at e <;> simp at e <;> subst e <;> simp [aeq, depth, hi, hd, eqMap]
 ·rw [hd] at hm
  cases z' <;> simp at hm
  split at e <;> simp at e <;> subst e <;> simp [aeq, depth, hi, hd, eqFunc]
 ·simp at e
def nilFit (d : TD) (z : AV) : Bool :=
 match d, z with
 | .ptr _, .nilptr => true
 | .slice _, .nilslice => true
 | .map _ _, .nilmap => true
 | .func, .nilFunc => true
 | _, _ => false
def nilK (d : TD) (v : AV) (yes : Bool) (K : Bool → Prop) : Prop :=
 match nilT d v with
 | some r => K (if yes then r else !r)
 | none => False
def yesOf : BinOp → Bool
 | .eql => true
 | _ => false
def isEqOp : BinOp → Bool
 | .eql => true
 | .neq => true
 | _ => false
def cmpK (D : Tab) (s : St) (op : BinOp) (t : TypeId) (x y : Operand) (a b : AV) (K : AV → Prop) : Prop :=
 match D.ty.get t with
 | none => False
 | some i =>
  match i.d with
  | .int _ => (match a with | .int k n => (match b with | .int k' m => (match decide (k = k') with | true => optK (bin op k n m) K | false => False) | _ => False) | _ => False)
  | .string => (match a with | .str u => (match b with | .str v => optK (sbin op u v) K | _ => False) | _ => False)
  | .bool => (match isEqOp op with | true => optK (match eqBool a b with | some r => some (.bool (if yesOf op then r else !r)) | none => none) K | false => False)
  | .struct _ => (match isEqOp op with | true => (match aeqS D depth t a b with | some r => K (.bool (if yesOf op then r else !r)) | none => ∃ v, eqA D s op t x y a b = some v ∧ K v) | false => False)
  | d =>
   match isEqOp op with
   | true =>
    match isC x || isC y with
    | true =>
     (match nilFit d b with
     | true => nilK d a (yesOf op) fun r => K (.bool r)
     | false => (match nilFit d a with | true => nilK d b (yesOf op) fun r => K (.bool r) | false => ∃ r : Bool, eqA D s op t x y a b = some (.bool r) ∧ K (.bool r)))
    | false => ∃ r : Bool, eqA D s op t x y a b = some (.bool r) ∧ K (.bool r)
   | false => False
end
end Go.Eng

namespace Go.Eng
noncomputable section
variable {P : Program} {D : Tab}
def ptrK (v : AV) (off : Nat) (K : Nat → Nat → Prop) : Prop :=
 match v with
 | .ptr b o => K b (o + off)
 | _ => False
def faK (D : Tab) (t : TypeId) (v : AV) (f : Nat) (K : AV → Prop) : Prop :=
 match D.ty.get t with
 | some i =>
  match i.d with
  | .struct fs =>
   match fs[f]? with
   | some y => (match D.ty.get y.1 with | some fi => (match fi.size with | 0 => False | _ + 1 => ptrK v y.2.1 fun b o => K (.ptr b o)) | none => False)
   | none => False
  | _ => False
 | none => False
theorem faK_ok {t : TypeId} {v : AV} {f : Nat} {K : AV → Prop} (h : faK D t v f K) : ∃ u, fieldAddrA D t v f = some u ∧ K u := by
 unfold faK at h
 split at h
 ·rename_i i hi
  split at h
  ·rename_i fs hd
   split at h
   ·rename_i y hy
    split at h
    ·rename_i fi hfi
     split at h
     ·exact h.elim
     ·rename_i n hn
      unfold ptrK at h
      split at h
      ·exact ⟨_, by simp [fieldAddrA, fieldAddrB, hi, hd, hy, hfi, hn], h⟩
      ·exact h.elim
    ·exact h.elim
   ·exact h.elim
  ·exact h.elim
 ·exact h.elim
def mulS (n size : Nat) : Nat :=
 match size with
 | 1 => n
 | _ => n * size
theorem mulS_eq (n size : Nat) : mulS n size = n * size := by
 unfold mulS; split <;> simp
def ixsK (size : Nat) (v : AV) (n : Int) (K : Nat → Nat → Prop) : Prop :=
 match v with
 | .slice b o len _ => 0 ≤ n ∧ n < (len : Int) ∧ K b (o + mulS n.toNat size)
 | _ => False
def ixpK (size len : Nat) (v : AV) (n : Int) (K : Nat → Nat → Prop) : Prop :=
 match v with
 | .ptr b o => 0 ≤ n ∧ n < (len : Int) ∧ K b (o + mulS n.toNat size)
 | _ => False
def ixaK (D : Tab) (t : TypeId) (v i : AV) (K : AV → Prop) : Prop :=
 match i with
 | .int _ n =>
  match D.ty.get t with
  | some ti =>
   match ti.d with
   | .array len e => (match D.ty.get e with | some ei => ixpK ei.size len v n fun b o => K (.ptr b o) | none => False)
   | .slice e => (match D.ty.get e with | some ei => ixsK ei.size v n fun b o => K (.ptr b o) | none => False)
   | _ => False
  | none => False
 | _ => False
theorem ixaK_ok {t : TypeId} {v i : AV} {K : AV → Prop} (h : ixaK D t v i K) : ∃ u, (∀ s, indexAddrX D s t v i = some u) ∧ K u := by
 unfold ixaK at h
 split at h
 ·rename_i k n
  split at h
  ·rename_i ti hti
   split at h
   ·rename_i len e hd
    split at h
    ·rename_i ei hei
     unfold ixpK at h
     split at h
     ·rename_i b o
      obtain ⟨h1, h2, h3⟩ := h
      rw [mulS_eq] at h3
      refine ⟨_, fun s => ?_, h3⟩
      have : Nat.blt n.toNat len = true := by rw [Nat.blt_eq]; omega
      simp [indexAddrX, isTm, isSsl, indexAddrA, hti, natOf, h1, hd, hei, this]
     ·exact h.elim
    ·exact h.elim
   ·rename_i e hd
    split at h
    ·rename_i ei hei
     unfold ixsK at h
     split at h
     ·rename_i b o len cap
      obtain ⟨h1, h2, h3⟩ := h
      rw [mulS_eq] at h3
      refine ⟨_, fun s => ?_, h3⟩
      have : Nat.blt n.toNat len = true := by rw [Nat.blt_eq]; omega
      simp [indexAddrX, isTm, isSsl, indexAddrA, hti, natOf, h1, hd, hei, this]
     ·exact h.elim
    ·exact h.elim
   ·exact h.elim
  ·exact h.elim
 ·exact h.elim
def byteK (b : ByteArray) (n : Int) (K : UInt8 → Prop) : Prop := 0 ≤ n ∧ ∃ c : UInt8, b.data.toList[n.toNat]? = some c ∧ K c
def ixK (D : Tab) (t : TypeId) (v i : AV) (K : AV → Prop) : Prop :=
 match D.ty.get t with
 | some ti =>
  match ti.d with
  | .string => (match v with | .str b => (match i with | .int _ n => byteK b n fun c => K (.int .u8 c.toNat) | _ => False) | _ => False)
  | .array _ e => exT D e fun u => indexA D t v i = some u ∧ K u
  | _ => optK (indexA D t v i) K
 | none => False
theorem ixK_ok {t : TypeId} {v i : AV} {K : AV → Prop} (h : ixK D t v i K) : ∃ u, indexA D t v i = some u ∧ K u := by
 unfold ixK at h
 split at h
 ·rename_i ti hti
  split at h
  ·rename_i hd
   split at h
   ·rename_i b
    split at h
    ·rename_i k n
     obtain ⟨h1, c, h2, h3⟩ := h
     exact ⟨_, by simp [indexA, hti, natOf, h1, hd, h2], h3⟩
    ·exact h.elim
   ·exact h.elim
  ·obtain ⟨u, h1, h2⟩ := exT_ok h
   exact ⟨u, h1, h2⟩
  ·exact optK_ok h
 ·exact h.elim
def sliceV (size : Nat) (v : AV) (lo hi mx : Option AV) : Option AV :=
 match v with
 | .nilslice => sliceNil (optInt 0 lo) (optInt 0 hi) hi mx
 | .slice0 z => slice00 z (optInt 0 lo) (optInt 0 hi) hi mx
 | .slice b o len cap => sliceSl size b o len cap (optInt 0 lo) (optInt len hi) hi mx
 | _ => none
def sliceP (size n : Nat) (v : AV) (lo hi mx : Option AV) : Option AV :=
 match v, mx, optInt 0 lo, optInt n hi with
 | .ptr b o, none, some l, some h => sliceEx size b o n l h n
 | _, _, _, _ => none
def subK (s : ByteArray) (l h : Int) (K : ByteArray → Prop) : Prop := 0 ≤ l ∧ l ≤ h ∧ h ≤ ((s.size : Nat) : Int) ∧ K (s.extract l.toNat h.toNat)
def loK (d : Int) (o : Option AV) (K : Int → Prop) : Prop :=
 match o with
 | none => K d
 | some (.int _ n) => K n
 | _ => False
theorem loK_ok {d : Nat} {o : Option AV} {K : Int → Prop} (h : loK (d : Int) o K) : ∃ n : Int, K n ∧ (0 ≤ n → optInt d o = some n.toNat) := by
 unfold loK at h
 split at h
 ·exact ⟨_, h, fun _ => by simp [optInt]⟩
 ·exact ⟨_, h, fun h0 => by simp [optInt, h0]⟩
 ·exact h.elim
theorem subK_ok {s : ByteArray} {l h : Int} {K : ByteArray → Prop} (hk : subK s l h K) : 0 ≤ l ∧ 0 ≤ h ∧ sliceStr s (some l.toNat) (some h.toNat) = some (.str (s.extract l.toNat h.toNat)) ∧ K (s.extract l.toNat h.toNat) := by
 obtain ⟨h1, h2, h3, h4⟩ := hk
 refine ⟨h1, by omega, ?_, h4⟩
 have e1 : Nat.ble l.toNat h.toNat = true := by rw [Nat.ble_eq]; omega
 have e2 : Nat.ble h.toNat s.size = true := by rw [Nat.ble_eq]; omega
 simp only [sliceStr, e1, e2, Bool.and_self, if_true]
def slK (D : Tab) (t : TypeId) (v : AV) (lo hi mx : Option AV) (K : AV → Prop) : Prop :=
 match D.ty.get t with
 | some i =>
  match i.d with
  | .string => (match v with | .str s => (match mx with | none => loK 0 lo fun l => loK ((s.size : Nat) : Int) hi fun h => subK s l h fun t => K (.str t) | some _ => False) | _ => False)
  | .slice e => (match D.ty.get e with | some ei => optK (sliceV ei.size v lo hi mx) K | none => False)
  | .array n e => (match D.ty.get e with | some ei => optK (sliceP ei.size n v lo hi mx) K | none => False)
  | _ => False
 | none => False
theorem slK_ok {t : TypeId} {v : AV} {lo hi mx : Option AV} {K : AV → Prop} (h : slK D t v lo hi mx K) : ∃ u, sliceA D t v lo hi mx = some u ∧ K u := by
 unfold slK at h
 split at h
 ·rename_i i hi
  split at h
  ·rename_i hd
   split at h
   ·split at h
    ·obtain ⟨l, h1, f1⟩ := loK_ok (d := 0) h
     obtain ⟨u, h2, f2⟩ := loK_ok h1
     obtain ⟨g1, g2, g3, g4⟩ := subK_ok h2
     exact ⟨_, by simp only [sliceA, hi, hd]; rw [f1 g1, f2 g2]; exact g3, g4⟩
    ·exact h.elim
   ·exact h.elim
  ·rename_i e hd
   split at h
   ·rename_i ei hei
    obtain ⟨u, h1, h2⟩ := optK_ok h
    refine ⟨u, ?_, h2⟩
    simp only [sliceA, hi, hd, hei]
    unfold sliceV at h1
    split at h1 <;> first | exact h1 | (simp at h1; done)
   ·exact h.elim
  ·rename_i n e hd
   split at h
   ·rename_i ei hei
    obtain ⟨u, h1, h2⟩ := optK_ok h
    refine ⟨u, ?_, h2⟩
    simp only [sliceA, hi, hd, hei]
    unfold sliceP at h1
    split at h1
    ·rename_i e1 e2; simp only [e1, e2]; exact h1
    ·simp at h1
   ·exact h.elim
  ·exact h.elim
 ·exact h.elim
def binK (op : BinOp) (k : IntKind) (n m : Int) (K : AV → Prop) : Prop :=
 match op with
 | .quo => m ≠ 0 ∧ K (.int k (k.wrap (n.tdiv m)))
 | .rem => m ≠ 0 ∧ K (.int k (n.tmod m))
 | .shl => 0 ≤ m ∧ K (.int k (k.wrap (n * 2 ^ (min m.toNat k.bits))))
 | .shr => 0 ≤ m ∧ K (.int k (n.fdiv (2 ^ (min m.toNat k.bits))))
 | _ => optK (bin op k n m) K
def catK (u v : ByteArray) (K : AV → Prop) : Prop := u.size + v.size < 9223372036854775808 ∧ K (.str (u ++ v))
def arK (op : BinOp) (a b : AV) (K : AV → Prop) : Prop :=
 match a with
 | .int k n => (match b with | .int k' m => (match isSh op || decide (k = k') with | true => binK op k n m K | false => False) | _ => False)
 | .str u => (match b with | .str v => (match op with | .add => catK u v K | _ => False) | _ => False)
 | _ => False
theorem arK_ok {op : BinOp} {a b : AV} {K : AV → Prop} (h : arK op a b K) : ∃ u, (∀ (D : Tab) (s : St) (t : TypeId) (x y : Operand), binA D s op t x y a b = some u) ∧ K u := by
 unfold arK at h
 split at h
 ·rename_i k n
  split at h
  ·rename_i k' m
   split at h
   ·rename_i hc
    have hb : ∀ (D : Tab) (s : St) (t : TypeId) (x y : Operand), binA D s op t x y (.int k n) (.int k' m) = binB D s op t x y (.int k n) (.int k' m) := fun _ _ _ _ _ => rfl
    unfold binK at h
    split at h
    ·have hk : k = k' := by simpa [isSh] using hc
     exact ⟨_, fun D s t x y => by rw [hb]; simp [binB, isSh, hk, bin, h.1], h.2⟩
    ·have hk : k = k' := by simpa [isSh] using hc
     exact ⟨_, fun D s t x y => by rw [hb]; simp [binB, isSh, hk, bin, h.1], h.2⟩
    ·exact ⟨_, fun D s t x y => by rw [hb]; simp only [binB, isSh, shf]; rw [if_neg (by omega)], h.2⟩
    ·exact ⟨_, fun D s t x y => by rw [hb]; simp only [binB, isSh, shf]; rw [if_neg (by omega)], h.2⟩
    ·rename_i h1 h2 h3 h4
     have hs : isSh op = false := by cases op <;> first | rfl | exact absurd rfl h3 | exact absurd rfl h4
     have hk : k = k' := by simpa [hs] using hc
     obtain ⟨u, e, hu⟩ := optK_ok h
     exact ⟨u, fun D s t x y => by rw [hb]; simp only [binB, hs, hk, if_true]; rw [← hk]; exact e, hu⟩
   ·exact h.elim
  ·exact h.elim
 ·rename_i u
  split at h
  ·rename_i v
   split at h
   ·obtain ⟨h1, h2⟩ := h
    exact ⟨_, fun D s t x y => by simp [binA, isTm, binB, sbin, h1], h2⟩
   ·exact h.elim
  ·exact h.elim
 ·exact h.elim
def fillK : List (Nat × Nat × Bool) → List AV → List (Nat × AV) → (List AV → Prop) → Prop
 | _, cells, [], K => K cells
 | pl, cells, x :: rest, K =>
  match pl[x.1]? with
  | none => False
  | some q =>
   match q.2.2 with
   | true =>
    match x.2 with
    | .agg vc => (match Nat.beq vc.length q.2.1 && Nat.ble (q.1 + q.2.1) cells.length with | true => fillK pl (cells.take q.1 ++ vc ++ cells.drop (q.1 + q.2.1)) rest K | false => False)
    | _ => False
   | false =>
    match Nat.beq 1 q.2.1 && Nat.ble (q.1 + q.2.1) cells.length with
    | true => oneK x.2 (fillK pl (cells.take q.1 ++ [x.2] ++ cells.drop (q.1 + q.2.1)) rest K)
    | false => False
theorem fillK_ok {pl : List (Nat × Nat × Bool)} : ∀ {l : List (Nat × AV)} {cells : List AV} {K : List AV → Prop}, fillK pl cells l K → ∃ cs, fillP (pl.map fun q => (q.1, q.2.1)) cells l = some cs ∧ K cs
 | [], cells, K, h => ⟨cells, rfl, h⟩
 | (i, v) :: rest, cells, K, h => by
  simp only [fillK] at h
  split at h
  ·exact h.elim
  ·rename_i q hq
   have hpl : (pl.map fun q => (q.1, q.2.1))[i]? = some (q.1, q.2.1) := by simp only [List.getElem?_map]; rw [hq]; rfl
   split at h
   ·split at h
    ·rename_i vc
     split at h
     ·rename_i hc
      obtain ⟨cs, h1, h2⟩ := fillK_ok h
      refine ⟨cs, ?_, h2⟩
      simp only [fillP, hpl, AV.cells, hc, if_true]
      exact h1
     ·exact h.elim
    ·exact h.elim
   ·split at h
    ·rename_i hc
     obtain ⟨h0, h⟩ := oneK_ok h
     obtain ⟨cs, h1, h2⟩ := fillK_ok h
     refine ⟨cs, ?_, h2⟩
     simp only [fillP, hpl, h0]
     rw [show [v].length = 1 from rfl, hc]
     exact h1
    ·exact h.elim
def placesF (D : Tab) : List (TypeId × Nat × Bool) → Option (List (Nat × Nat × Bool))
 | [] => some []
 | f :: r =>
  match D.ty.get f.1, placesF D r with
  | some i, some l => some ((f.2.1, i.size, isAggT i.d) :: l)
  | _, _ => none
theorem placesF_ok : ∀ {fs : List (TypeId × Nat × Bool)} {pl : List (Nat × Nat × Bool)}, placesF D fs = some pl → placesA D fs = some (pl.map fun q => (q.1, q.2.1))
 | [], pl, h => by simp [placesF] at h; subst h; rfl
 | f :: r, pl, h => by
  obtain ⟨t, off, nm⟩ := f
  simp only [placesF] at h
  split at h
  ·rename_i i l hi hl
   simp at h; subst h
   simp only [placesA, hi, placesF_ok hl, List.map_cons]
  ·simp at h
def buildK (D : Tab) (t : TypeId) (is : List Nat) (vs : List AV) (K : AV → Prop) : Prop :=
 match D.ty.get t with
 | some i =>
  match i.zero with
  | some z =>
   match i.d with
   | .struct fs => (match placesF D fs with | some pl => fillK pl z.cells (is.zip vs) fun cs => K (.agg cs) | none => False)
   | .array n e => (match D.ty.get e with | some ei => fillK ((List.range n).map fun i => (i * ei.size, ei.size, isAggT ei.d)) z.cells (is.zip vs) fun cs => K (.agg cs) | none => False)
   | _ => False
  | none => False
 | none => False
theorem buildK_ok {t : TypeId} {is : List Nat} {vs : List AV} {K : AV → Prop} (h : buildK D t is vs K) : ∃ u, buildA D t is vs = some u ∧ K u := by
 unfold buildK at h
 split at h
 ·rename_i i hi
  split at h
  ·rename_i z hz
   split at h
   ·rename_i fs hd
    split at h
    ·rename_i pl hpl
     obtain ⟨cs, h1, h2⟩ := fillK_ok h
     exact ⟨_, by simp only [buildA, hi, hz, hd, placesF_ok hpl, h1], h2⟩
    ·exact h.elim
   ·rename_i n e hd
    split at h
    ·rename_i ei hei
     obtain ⟨cs, h1, h2⟩ := fillK_ok h
     refine ⟨_, ?_, h2⟩
     simp only [List.map_map] at h1
     simp only [buildA, hi, hz, hd, hei]
     rw [show (List.map (fun i => (i * ei.size, ei.size)) (List.range n)) = List.map ((fun q : Nat × Nat × Bool => (q.1, q.2.1)) ∘ fun i => (i * ei.size, ei.size, isAggT ei.d)) (List.range n) from rfl, h1]
    ·exact h.elim
   ·exact h.elim
  ·exact h.elim
 ·exact h.elim
def cvK (D : Tab) (b : TypeId) (v : AV) (K : AV → Prop) : Prop :=
 match D.ty.get b with
 | some j => (match j.d with | .int k => (match v with | .int _ n => K (.int k (k.wrap n)) | _ => False) | _ => False)
 | none => False
theorem cvK_ok {a b : TypeId} {v : AV} {K : AV → Prop} (ha : (D.ty.get a).isSome = true) (h : cvK D b v K) : ∃ u, (∀ s, convS D s a b v = some (u, s)) ∧ K u := by
 unfold cvK at h
 obtain ⟨i, hi⟩ := Option.isSome_iff_exists.1 ha
 split at h
 ·rename_i j hj
  split at h
  ·rename_i k hd
   split at h
   ·rename_i k' n
    refine ⟨_, fun s => ?_, h⟩
    simp only [convS, hi, hj, hd]
   ·exact h.elim
  ·exact h.elim
 ·exact h.elim
def pureK (D : Tab) (T : PT AV) (op : Op) (K : AV → Prop) : Prop :=
 match op with
 | .move x => evK T x K
 | .assign x => evK T x K
 | .pick c a b => evK T c fun v => match v with | .bool y => bsel y (evK T a K) (evK T b K) | _ => False
 | .field t x f => evK T x fun v => optK (fieldA D t v f) K
 | .fieldAddr t x f => evK T x fun v => faK D t v f K
 | .index t x i => evK T x fun v => evK T i fun n => ixK D t v n K
 | .slice t x lo hi mx => evK T x fun v => evoK T lo fun l => evoK T hi fun h => evoK T mx fun m => slK D t v l h m K
 | .unOp op _ x => evK T x fun v => optK (unA op v) K
 | .extract x i => evK T x fun v => optK (extractA v i) K
 | .makeInterface t x => evK T x fun v => optK (ifaceA D t v) K
 | .makeFunc (.func f) first caps => evsK T first.toList fun a => evsK T caps.toList fun b => K (.func f a b)
 | .build t ps => evsK T (ps.toList.map (·.2)) fun vs => buildK D t (ps.toList.map (·.1)) vs K
 | .nilCheck x => evK T x fun v => ptrK v 0 fun b o => K (.ptr b o)
 | .binOp op _ x y _ => evK T x fun a => evK T y fun b => arK op a b K
 | .convert a b x => (match (D.ty.get a).isSome with | true => evK T x fun v => cvK D b v K | false => False)
 | .call c =>
  match c.callee with
  | .builtin .cap => (match c.argTypes.toList with | [t] => evsK T c.args.toList fun vs => (match vs with | [x] => ∃ n : Int, capA D t x = some (.int .i64 n) ∧ K (.int .i64 n) | _ => False) | _ => False)
  | .builtin .max => evsK T c.args.toList fun vs => (match vs with | x :: r => optK (maxA x r true) K | _ => False)
  | .builtin .min => evsK T c.args.toList fun vs => (match vs with | x :: r => optK (maxA x r false) K | _ => False)
  | _ => False
 | _ => False
theorem pureK_ok {T : PT AV} {op : Op} {K : AV → Prop} (h : pureK D T op K) : ∃ v, K v ∧ ∀ s, opA D T s op = some (.val v s) := by
 unfold pureK at h
 split at h
 ·obtain ⟨v, h1, h⟩ := optK_ok h; exact ⟨v, h, fun s => by simp [opA, h1, v1]⟩
 ·obtain ⟨v, h1, h⟩ := optK_ok h; exact ⟨v, h, fun s => by simp [opA, h1, v1]⟩
 ·obtain ⟨v, h1, h⟩ := optK_ok h
  split at h
  ·rename_i y
   rcases bsel_ok h with ⟨rfl, h⟩ | ⟨rfl, h⟩
   ·obtain ⟨v, h2, h⟩ := optK_ok h; exact ⟨v, h, fun s => by simp [opA, ev1, h1, pickA, h2, v1]⟩
   ·obtain ⟨v, h2, h⟩ := optK_ok h; exact ⟨v, h, fun s => by simp [opA, ev1, h1, pickA, h2, v1]⟩
  ·exact h.elim
 ·obtain ⟨v, h1, h⟩ := optK_ok h
  obtain ⟨u, h2, h⟩ := optK_ok h
  exact ⟨u, h, fun s => by simp [opA, ev1, h1, h2, v1]⟩
 ·obtain ⟨v, h1, h⟩ := optK_ok h
  obtain ⟨u, h2, h⟩ := faK_ok h
  exact ⟨u, h, fun s => by simp [opA, ev1, h1, h2, v1]⟩
 ·obtain ⟨v, h1, h⟩ := optK_ok h
  obtain ⟨n, h2, h⟩ := optK_ok h
  obtain ⟨u, h3, h⟩ := ixK_ok h
  exact ⟨u, h, fun s => by simp [opA, ev2, h1, h2, h3, v1]⟩
 ·obtain ⟨v, h1, h⟩ := optK_ok h
  obtain ⟨l, h2, h⟩ := evoK_ok h
  obtain ⟨hh, h3, h⟩ := evoK_ok h
  obtain ⟨m, h4, h⟩ := evoK_ok h
  obtain ⟨u, h5, h⟩ := slK_ok h
  exact ⟨u, h, fun s => by simp [opA, ev1, h1, sliceOp, h2, h3, h4, h5, v1]⟩
 ·obtain ⟨v, h1, h⟩ := optK_ok h
  obtain ⟨u, h2, h⟩ := optK_ok h
  exact ⟨u, h, fun s => by simp [opA, ev1, h1, h2, v1]⟩
 ·obtain ⟨v, h1, h⟩ := optK_ok h
  obtain ⟨u, h2, h⟩ := optK_ok h
  exact ⟨u, h, fun s => by simp [opA, ev1, h1, h2, v1]⟩
 ·obtain ⟨v, h1, h⟩ := optK_ok h
  obtain ⟨u, h2, h⟩ := optK_ok h
  exact ⟨u, h, fun s => by simp [opA, ev1, h1, h2, v1]⟩
 ·obtain ⟨a, h1, h⟩ := evsK_ok h
  obtain ⟨b, h2, h⟩ := evsK_ok h
  exact ⟨_, h, fun s => by simp [opA, fnOp, h1, h2]⟩
 ·obtain ⟨vs, h1, h⟩ := evsK_ok h
  obtain ⟨u, h2, h⟩ := buildK_ok h
  exact ⟨u, h, fun s => by simp [opA, h1, h2, v1]⟩
 ·obtain ⟨v, h1, h⟩ := optK_ok h
  unfold ptrK at h
  split at h
  ·exact ⟨_, h, fun s => by simp [opA, ev1, h1, nilCheckA, v1]⟩
  ·exact h.elim
 ·obtain ⟨a, h1, h⟩ := optK_ok h
  obtain ⟨b, h2, h⟩ := optK_ok h
  obtain ⟨u, h3, h⟩ := arK_ok h
  exact ⟨u, h, fun s => by simp [opA, ev2, h1, h2, h3, v1]⟩
 ·split at h
  ·rename_i ha
   obtain ⟨v, h1, h⟩ := optK_ok h
   obtain ⟨u, h2, h⟩ := cvK_ok ha h
   exact ⟨u, h, fun s => by simp [opA, ev1, h1, h2, v2]⟩
  ·exact h.elim
 ·rename_i c
  split at h
  ·rename_i hc
   split at h
   ·rename_i t ht
    obtain ⟨vs, h1, h⟩ := evsK_ok h
    split at h
    ·obtain ⟨u, h2, h⟩ := h
     exact ⟨_, h, fun s => by simp [opA, callOp, h1, hc, builtinA, ht, h2, st1, v2]⟩
    ·exact h.elim
   ·exact h.elim
  ·rename_i hc
   obtain ⟨vs, h1, h⟩ := evsK_ok h
   split at h
   ·obtain ⟨u, h2, h⟩ := optK_ok h
    exact ⟨u, h, fun s => by simp [opA, callOp, h1, hc, builtinA, h2, st1, v2]⟩
   ·exact h.elim
  ·rename_i hc
   obtain ⟨vs, h1, h⟩ := evsK_ok h
   split at h
   ·obtain ⟨u, h2, h⟩ := optK_ok h
    exact ⟨u, h, fun s => by simp [opA, callOp, h1, hc, builtinA, h2, st1, v2]⟩
   ·exact h.elim
  ·exact h.elim
 ·exact h.elim
end
end Go.Eng

