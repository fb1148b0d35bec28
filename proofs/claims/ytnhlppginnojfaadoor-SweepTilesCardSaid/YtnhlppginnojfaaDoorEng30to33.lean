/-
  The abstract interpreter, its soundness: a region that draws, whole.
  The abstract interpreter, its soundness: code.
  The abstract interpreter, its soundness: code, by induction.
  The abstract interpreter, its soundness: ends that are taken together.
-/
import Derived.Test.YtnhlppginnojfaaDoorEng29
import Derived.Orders
import Derived.Test.YtnhlppginnojfaaDoorEng1to3
set_option linter.unusedVariables false
set_option linter.unusedSimpArgs false
namespace Go.Eng
variable {P : Program} {D : Tab} {ops : Array Oper} {rec : Rec} {mg : Merge} {base n : Nat} {gs : Nat → Rg}
variable {φ0 φ : Phi} {s0 : St} {w0 w : World} {a : Act}
def done (listed : Array Bool) (j : Nat) : Prop := listed[j]? = some true
theorem all_done (reg : Fwd ops) {listed : Array Bool} (hsz : listed.size = ops.size) (h : Region.ready .any ops listed = []) : ∀ j, j < ops.size → done listed j := by
 intro j
 induction j using Nat.strongRecOn with
 | _ j ih =>
  intro hj
  have hlj : j < listed.size := by omega
  cases hb : listed[j] with
  | true => unfold done; rw [Array.getElem?_eq_getElem hlj, hb]
  | false =>
   exfalso
   have ho : ops[j]? = some ops[j] := by simp [hj]
   have : j ∈ Region.ready .any ops listed := mem_ready.2 ⟨by simp [Array.getD_eq_getD_getElem?, hlj, hb], ops[j], ho, fun e he hbd => by
    have hlt := reg j _ ho e he hbd
    have := ih e.on hlt (by omega)
    unfold done at this
    simp [Array.getD_eq_getD_getElem?, this]⟩
   rw [h] at this
   simp at this
def left (listed : Array Bool) : Nat := (List.range listed.size).countP fun j => !(listed.getD j true)
theorem countP_one {p q : Nat → Bool} {i : Nat} : ∀ {l : List Nat}, l.Nodup → i ∈ l → p i = true → q i = false → (∀ j, j ≠ i → q j = p j) → l.countP q + 1 = l.countP p
 | [], _, h, _, _, _ => by simp at h
 | x :: r, hn, hm, hp, hq, he => by
  rw [List.nodup_cons] at hn
  by_cases e : x = i
  ·subst e
   have : r.countP q = r.countP p := by
    apply List.countP_congr
    intro y hy
    rw [he y (by rintro rfl; exact hn.1 hy)]
   simp [hp, hq, this]
  ·have hm' : i ∈ r := by
    rcases List.mem_cons.1 hm with h | h
    ·exact absurd h.symm e
    ·exact h
   have := countP_one hn.2 hm' hp hq he
   simp only [List.countP_cons, he x e]
   omega
theorem left_set {listed : Array Bool} {i : Nat} (hi : i < listed.size) (h : listed.getD i true = false) : left (listed.setIfInBounds i true) + 1 = left listed := by
 unfold left
 rw [Array.size_setIfInBounds]
 refine countP_one (i := i) List.nodup_range (by simp [hi]) (by simp [h]) (by simp [Array.getD_eq_getD_getElem?, hi]) (fun j hj => ?_)
 simp [Array.getD_eq_getD_getElem?, Array.getElem?_setIfInBounds_ne (Ne.symm hj)]
theorem draw_go (hD : TabOk P D) (hrec : RecOk P rec) (hmg : MergeOk P mg) (reg : RegR ops) (hw : Walk D rec mg ops base n gs) (h0 : (gs 0).past = []) (h0' : (gs 0).pend = []) (hbase : s0.nx ≤ base ∧ GB ≤ base) (b : Frame) (k : List Item) (cs : List Frame) :
  ∀ (fuel t : Nat) (listed : Array Bool) (φ : Phi) (a : Act) (w : World), listed.size = ops.size → left listed ≤ fuel → Closed ops (done listed) → Inv D ops gs base n φ0 s0 w0 (done listed) φ a w →
   ∃ φ' a' w', Steps P (lone (b.atR a (.inRegion ops (Region.linearise.go .any ops fuel t listed []) :: k)) cs w) (lone (b.atR a' k) cs w') ∧ a'.defers = a.defers ∧ ∃ E, (∀ j, j < ops.size → E j) ∧ Inv D ops gs base n φ0 s0 w0 E φ' a' w'
 | fuel, t, listed, φ, a, w, hsz, hleft, hc, inv => by
  have hend : Region.ready .any ops listed = [] → Region.linearise.go .any ops fuel t listed [] = [] → ∃ φ' a' w', Steps P (lone (b.atR a (.inRegion ops (Region.linearise.go .any ops fuel t listed []) :: k)) cs w) (lone (b.atR a' k) cs w') ∧ a'.defers = a.defers ∧ ∃ E, (∀ j, j < ops.size → E j) ∧ Inv D ops gs base n φ0 s0 w0 E φ' a' w' := by
   intro hr hl
   rw [hl]
   exact ⟨φ, a, w, .one stepR_region_end, rfl, done listed, all_done reg.fwd hsz hr, inv⟩
  cases fuel with
  | zero =>
   refine hend ?_ (by simp [Region.linearise.go])
   cases hr : Region.ready .any ops listed with
   | nil => rfl
   | cons i r =>
    exfalso
    have hm : i ∈ Region.ready .any ops listed := by rw [hr]; exact List.mem_cons_self ..
    obtain ⟨g1, o, g2, g3⟩ := mem_ready.1 hm
    have hi : i < listed.size := by rw [hsz]; exact (Array.getElem?_eq_some_iff.1 g2).1
    have := left_set hi g1
    omega
  | succ fuel =>
   simp only [Region.linearise.go] at hend ⊢
   change (Region.ready .any ops listed = [] → (match (Region.ready .any ops listed)[t % (Region.ready .any ops listed).length]? with
    | some i => Region.linearise.go .any ops fuel (t / (Region.ready .any ops listed).length) (listed.setIfInBounds i true) [i]
    | none => [].reverse) = [] → _) at hend
   change ∃ φ' a' w', Steps P (lone (b.atR a (.inRegion ops (match (Region.ready .any ops listed)[t % (Region.ready .any ops listed).length]? with
    | some i => Region.linearise.go .any ops fuel (t / (Region.ready .any ops listed).length) (listed.setIfInBounds i true) [i]
    | none => [].reverse) :: k)) cs w) (lone (b.atR a' k) cs w') ∧ _
   cases hi : (Region.ready .any ops listed)[t % (Region.ready .any ops listed).length]? with
   | none =>
    have hnil : Region.ready .any ops listed = [] := by
     cases hr : Region.ready .any ops listed with
     | nil => rfl
     | cons x xs =>
      rw [hr] at hi
      have hlt : t % (x :: xs).length < (x :: xs).length := Nat.mod_lt _ (by simp)
      simp at hi
      simp at hlt
      omega
    exact ⟨φ, a, w, .one stepR_region_end, rfl, done listed, all_done reg.fwd hsz hnil, inv⟩
   | some i =>
    simp only []
    rw [linearise_go_acc, List.reverse_singleton, List.singleton_append]
    have hm := List.mem_of_getElem? hi
    obtain ⟨g1, o, g2, g3⟩ := mem_ready.1 hm
    have hil : i < listed.size := by rw [hsz]; exact (Array.getElem?_eq_some_iff.1 g2).1
    have hnd : ¬ done listed i := by
     unfold done
     intro h
     simp [Array.getD_eq_getD_getElem?, h] at g1
    have hrd : ∀ e, e ∈ o.after → Region.binds .any e = true → done listed e.on := by
     intro e he hb
     have := g3 e he hb
     unfold done
     rw [Array.getD_eq_getD_getElem?] at this
     cases hx : listed[e.on]? with
     | none => rw [hx] at this; simp at this
     | some y => rw [hx] at this; simp at this; rw [this]
    have hE : (fun j => j = i ∨ done listed j) = done (listed.setIfInBounds i true) := by
     funext j
     unfold done
     by_cases e : j = i
     ·subst e
      simp [hil]
     ·simp [Array.getElem?_setIfInBounds_ne (Ne.symm e), e]
    obtain ⟨φ1, u, w1, q1, q2⟩ := inv.exec hD hrec hmg reg hw h0 h0' hbase hc g2 hrd hnd b k cs (Region.linearise.go .any ops fuel (t / (Region.ready .any ops listed).length) (listed.setIfInBounds i true) [])
    rw [hE] at q2
    have hc' : Closed ops (done (listed.setIfInBounds i true)) := by
     rw [← hE]
     intro j hj o' ho' e he hb
     rcases hj with rfl | hj
     ·rw [g2] at ho'
      simp at ho'
      subst ho'
      exact .inr (hrd e he hb)
     ·exact .inr (hc j hj o' ho' e he hb)
    obtain ⟨φ2, a2, w2, r1, r2, E, r3, r4⟩ := draw_go hD hrec hmg reg hw h0 h0' hbase b k cs fuel (t / (Region.ready .any ops listed).length) (listed.setIfInBounds i true) φ1 _ w1 (by simpa using hsz)
     (by have := left_set hil g1; omega) hc' q2
    exact ⟨φ2, a2, w2, q1.trans r1, by rw [r2, Act.defers_put], E, r3, r4⟩
theorem draw_ok (hD : TabOk P D) (hmix : P.follows .mixedOrders = true) (hrec : RecOk P rec) (hmg : MergeOk P mg) {cf : Cf} {outs : List Cf} (h : drawReg D rec mg ops cf = some outs) (hc : CfR φ cf a w) (b : Frame) (k : List Item) (cs : List Frame) (id : Nat) :
  ∃ cf', cf' ∈ outs ∧ ∃ φ' a' w', Stp φ cf.s w φ' cf'.s w' ∧ CfR φ' cf' a' w' ∧ Steps P (lone (b.atR a (.code (.region id ops true) :: k)) cs w) (lone (b.atR a' k) cs w') := by
 unfold drawReg at h
 split at h
 ·rename_i hreg
  have reg := regOk_ok hreg
  simp only at h
  split at h
  ·rename_i g hg
   simp only [Option.some.injEq] at h
   subst h
   obtain ⟨gs, e1, e2, e3⟩ := drawOps_trace _ _ _ _ hg
   have hlen : (ops.toList.zip (masks ops.toList)).length = ops.size := by
    have h1 : (masks ops.toList).length = ops.size := by
     have := (go_take ops.toList []).2
     simpa [masks] using this
    simp [h1]
   rw [hlen, Nat.zero_add] at e2
   have hw : Walk D rec mg ops cf.s.nx cf.n gs := by
    intro i o ho
    have := e3 i o _ (zip_get ho)
    rw [Nat.zero_add] at this
    exact drawOne_view this
   have hstart := stepR_region_draw (P := P) (b := b) (a := a) (k := k) (cs := cs) (w := w) (ops := ops) (id := id)
   have hs0 : (gs 0).s = { cf.s with nx := cf.s.nx + ops.size } := by rw [e1]
   have hnone : ∀ j, ¬ done (Array.replicate ops.size false) j := by
    intro j hj
    unfold done at hj
    rw [Array.getElem?_replicate] at hj
    split at hj <;> simp at hj
   have hrel : Rel φ { cf.s with nx := cf.s.nx + ops.size } { w with drawn := w.drawn + 1 } :=
    have h := hc.s
    ⟨h.obj, h.inj, fun b hb => h.fresh b (by simp at hb; omega), h.freshc, h.glob, Nat.le_trans h.gnx (by simp), h.facts⟩
   have hstp : Stp φ cf.s w φ { cf.s with nx := cf.s.nx + ops.size } { w with drawn := w.drawn + 1 } :=
    ⟨Phi.le.rfl' φ, fun b r sh hb hr => .inr ⟨b, sh, hb, hr⟩, fun b r sh hb hr => .inr ⟨b, sh, hb, hr⟩, fun _ _ _ => rfl, Nat.le_refl _, rfl, rfl, rfl, by simp, Nat.le_refl _, fun _ _ => rfl, fun _ arr _ fz h => ⟨arr, fz, h, rfl⟩, fun _ => Nat.le_succ _⟩
   have hinv : Inv D ops gs cf.s.nx cf.n φ cf.s w (done (Array.replicate ops.size false)) φ a { w with drawn := w.drawn + 1 } := by
    refine ⟨fun t q hq h1 h2 x hx => ?_, hc.n, 0, Nat.zero_le _, fun j _ => ⟨fun h => by omega, fun h => absurd h (hnone j)⟩, ⟨by rw [hs0]; exact hrel, by rw [hs0]; exact hstp, by rw [hs0]; exact Nat.le_refl _, ?_, ?_, ?_⟩⟩
    ·rw [walk_t_range hw (Nat.zero_le q) hq (fun k o _ hk ho hd => hnone k (h1 k o hk ho hd)), e1] at hx
     exact hc.t t x hx
    ·rintro j ob ⟨h1, _⟩; exact absurd h1 (hnone j)
    ·rintro j ob j' ob' r ⟨h1, _⟩; exact absurd h1 (hnone j)
    ·intro j _ _; exact hc.s.fresh _ (by omega)
   obtain ⟨φ', a', w', r1, r2, E, r3, r4⟩ := draw_go hD hrec hmg reg hw (by rw [e1]) (by rw [e1]) ⟨Nat.le_refl _, hc.s.gnx⟩ b k cs ops.size (w.tape w.drawn (.order b.fn id)) (Array.replicate ops.size false) φ a _ (by simp)
    (by unfold left; exact Nat.le_trans List.countP_le_length (by simp)) (fun i hi => absurd hi (hnone i)) hinv
   obtain ⟨p, hps, hp, hh⟩ := r4.heap
   have hs : (gs ops.size).s = (gs p).s := walk_s_range hw hps (Nat.le_refl _) fun k h1 h2 h3 => by
    have := (hp k h3).2 (r3 k h2)
    omega
   have hh' := hh.move (q := ops.size) hs (fun k hk => by
    have hk' : k < ops.size := by
     obtain ⟨o, ho, _⟩ := hk
     exact (Array.getElem?_eq_some_iff.1 ho).1
    exact ⟨fun _ => hk', fun _ => (hp k hk).2 (r3 k hk')⟩)
   obtain ⟨f1, f2, _⟩ := hh'.flush (h' := flushAll g.pend g.s.h) (by
    intro b o hb
    rcases flushAll_get hb with h | ⟨j, h1⟩
    ·rw [e2]; exact .inl h
    ·rw [← e2] at h1
     obtain ⟨q1, q2, q3, q4⟩ := walk_pend hw reg.fwd (by rw [e1]) ops.size (Nat.le_refl _) h1
     exact .inr ⟨j, q2, r3 j q1, q3, fun k hk hh => q4 k hk hh⟩)
   rw [e2] at f1 f2
   refine ⟨_, List.mem_singleton.2 rfl, φ', a', w', f2, ⟨fun t x hx => ?_, r4.size, by rw [r2]; exact hc.ds.mono f2.ext, f1⟩, ?_⟩
   ·refine r4.tmps t ops.size (Nat.le_refl _) (fun j o hj _ _ => r3 j hj) (fun j o hj ho _ => ?_) x (by rw [e2]; exact hx)
    have := (Array.getElem?_eq_some_iff.1 ho).1
    omega
   ·refine .head hstart ?_
    rw [Region.schedule, hmix]
    simp only [Bool.true_or, if_true, Region.linearise]
    exact r1
  ·simp at h
 ·simp at h
end Go.Eng

namespace Go.Eng
variable {P : Program} {D : Tab}
section
variable {b : Frame} {a : Act} {k : List Item} {cs : List Frame} {w : World}
theorem stepR_scope {c : Code} : step P (lone (b.atR a (.code (.scope c) :: k)) cs w) = .next (lone (b.atR a (.code c :: .inScope c :: k)) cs w) :=
 step_lone_go (by simp [stepG, stepG.exec, Frame.atR])
theorem stepR_inScope {c : Code} : step P (lone (b.atR a (.inScope c :: k)) cs w) = .next (lone (b.atR a k) cs w) :=
 step_lone_go (by simp [stepG, stepG.exec, Frame.atR])
end
theorem ArrR.out {m : Machine} {b : Frame} {k k' : List Item} {cs : List Frame} {e : Ex} {a : Act} {w : World} (h : ArrR P m b k' cs e a w) (hx : ∀ id, e = .exit id → exitTo id k' = exitTo id k)
  (hn : e = .normal → Steps P (lone (b.atR a k') cs w) (lone (b.atR a k) cs w)) : ArrR P m b k cs e a w := by
 cases e with
 | normal => exact Steps.trans h (hn rfl)
 | exit id => obtain ⟨k1, h1, h2⟩ := h; exact ⟨k1, h1.trans (hx id rfl), h2⟩
 | ret => exact h
theorem CfR.withF {φ : Phi} {cf : Cf} {a : Act} {w : World} (h : CfR φ cf a w) {f : Fm} (hf : f.holds φ.env) : CfR φ (withF cf f) a w :=
 ⟨h.t, h.n, h.ds, ⟨h.s.obj, h.s.inj, h.s.fresh, h.s.freshc, h.s.glob, h.s.gnx, fun g hg => by
  rcases List.mem_cons.1 hg with rfl | hg
  ·exact hf
  ·exact h.s.facts g hg⟩⟩
theorem Stp.withF {φ φ' : Phi} {cf : Cf} {f : Fm} {s' : St} {w w' : World} (h : Stp φ (withF cf f).s w φ' s' w') : Stp φ cf.s w φ' s' w' :=
 ⟨h.ext, h.own, h.owb, h.keep, h.size, h.os, h.out, h.tape, h.nx, h.nc, h.old, h.shape, h.dr⟩
theorem forks_ok {orc : List Fm → Fm → Option Bool} (horc : ∀ fs f y, orc fs f = some y → ∀ e : Env, Known1 e fs → (if y then f else f.neg).holds e) {go : Cf → Option (List Cf)} {need : Cf → Option Fm} {X : Act → World → Act → World → Prop}
  (hgo : ∀ cf l φ a w, go cf = some l → CfR φ cf a w → ∃ cf', cf' ∈ l ∧ ∃ (φ' : Phi) (a' : Act) (w' : World), Stp φ cf.s w φ' cf'.s w' ∧ CfR φ' cf' a' w' ∧ X a w a' w') :
  ∀ (d : Nat) (cf : Cf) (l : List Cf) (φ : Phi) (a : Act) (w : World), forks orc go need d cf = some l → CfR φ cf a w → ∃ cf', cf' ∈ l ∧ ∃ (φ' : Phi) (a' : Act) (w' : World), Stp φ cf.s w φ' cf'.s w' ∧ CfR φ' cf' a' w' ∧ X a w a' w'
 | 0, cf, l, φ, a, w, h, hc => hgo cf l φ a w h hc
 | d + 1, cf, l, φ, a, w, h, hc => by
  simp only [forks] at h
  split at h
  ·rename_i l' hl
   simp at h; subst h
   exact hgo cf _ φ a w hl hc
  ·split at h
   ·simp at h
   ·rename_i f hf
    split at h
    ·rename_i ho
     obtain ⟨cf', m, φ', a', w', q1, q2, q3⟩ := forks_ok horc hgo d _ _ φ a w h (hc.withF (by simpa using horc _ _ _ ho φ.env hc.s.facts))
     exact ⟨cf', m, φ', a', w', q1.withF, q2, q3⟩
    ·rename_i ho
     obtain ⟨cf', m, φ', a', w', q1, q2, q3⟩ := forks_ok horc hgo d _ _ φ a w h (hc.withF (by simpa using horc _ _ _ ho φ.env hc.s.facts))
     exact ⟨cf', m, φ', a', w', q1.withF, q2, q3⟩
    ·split at h
     ·rename_i x y hx hy
      simp at h; subst h
      rcases f.both φ.env with g | g
      ·obtain ⟨cf', m, φ', a', w', q1, q2, q3⟩ := forks_ok horc hgo d _ _ φ a w hx (hc.withF g)
       exact ⟨cf', List.mem_append.2 (.inl m), φ', a', w', q1.withF, q2, q3⟩
      ·obtain ⟨cf', m, φ', a', w', q1, q2, q3⟩ := forks_ok horc hgo d _ _ φ a w hy (hc.withF g)
       exact ⟨cf', List.mem_append.2 (.inr m), φ', a', w', q1.withF, q2, q3⟩
     ·simp at h
def LoopOk (P : Program) (rec : Rec) : Prop :=
 ∀ rnd fn code cf outs, rec rnd fn (.loop code) cf = some outs → ∀ (φ : Phi) (a : Act) (w : World) (b : Frame) (k : List Item) (cs : List Frame), CfR φ cf a w → b.fn = fn → b.kind = .normal → RndR φ rnd b.roundOf →
  ∃ e cf', (e, cf') ∈ outs ∧ ∃ (φ' : Phi) (a' : Act) (w' : World), Stp φ cf.s w φ' cf'.s w' ∧ CfR φ' cf' a' w' ∧ ArrR P (lone (b.atR a (.inLoop code :: k)) cs w) b k cs e a' w'
theorem forceN_eq {α : Type} (n : Nat) (k : Nat → α) : forceN n k = k n := by cases n <;> rfl
theorem forceP_eq {α β : Type} (t : PT β) (k : PT β → α) : forceP t k = k t := by cases t <;> rfl
theorem forceC_eq {α : Type} (c : Cf) (k : Cf → α) : forceC c k = k c := by
 obtain ⟨t, n, ⟨h, nx, nc⟩, ds⟩ := c
 simp only [forceC, forceP_eq, forceN_eq]
theorem normals_mem : ∀ {l : List Cf} {c : Cf}, c ∈ l → (Ex.normal, c) ∈ normals l
 | [], c, h => by simp at h
 | x :: r, c, h => by
  rw [normals, forceC_eq]
  rcases List.mem_cons.1 h with rfl | h
  ·exact List.mem_cons_self ..
  ·exact List.mem_cons_of_mem _ (normals_mem h)
theorem rangeFunc_ok (hD : TabOk P D) {mg : Merge} (hmg : MergeOk P mg) {f : Nat} (hrec : RecOk P (run D mg f)) {rnd : Option Nat} {fn : FuncId} {g : Operand} {ps : Array Tmp} {assign body : Code} {cf : Cf} {outs : List (Ex × Cf)}
  (h : run D mg (f + 1) rnd fn (.rangeFunc g ps assign body) cf = some outs) (φ : Phi) (a : Act) (w : World) (b : Frame) (k : List Item) (cs : List Frame) (hc : CfR φ cf a w) (hb : b.fn = fn) (_ : b.kind = .normal) (hrnd : RndR φ rnd b.roundOf) :
  ∃ e cf', (e, cf') ∈ outs ∧ ∃ (φ' : Phi) (a' : Act) (w' : World), Stp φ cf.s w φ' cf'.s w' ∧ CfR φ' cf' a' w' ∧ ArrR P (lone (b.atR a (.code (.rangeFunc g ps assign body) :: k)) cs w) b k cs e a' w' := by
 simp only [run] at h
 split at h
 ·rename_i q first caps hev
  split at h
  ·simp at h
  ·rename_i ds s1 mark hr0
   have hblock : ∃ φ1 w1 rd shd md, Stp φ cf.s w φ1 s1 w1 ∧ Rel φ1 s1 w1 ∧ φ1.blk ds = some (rd, shd) ∧ DsR φ1 mark md ∧
     (Instr.enterLoop b.fn a.tmps ps assign body b.roundOf).run P w = ((newObj (.loop { state := .ready, pending := none, fn := b.fn, tmps := a.tmps, params := ps, assign, body, defers := rd })).run P w1).andThen fun l w' => .ok (l, md) w' := by
    cases rnd with
    | some l =>
     simp only at hr0
     split at hr0
     ·rename_i st pd fn2 t2 n2 ps2 as2 bd2 ds2 hl
      simp at hr0
      obtain ⟨rfl, rfl, rfl⟩ := hr0
      cases hro : b.roundOf with
      | none => rw [hro] at hrnd; exact absurd hrnd (by simp [RndR])
      | some r =>
       rw [hro] at hrnd
       obtain ⟨sh, hrnd⟩ := hrnd
       obtain ⟨L, g1, g2, g3, g4, g5, g6, g7, g8, g9, rd, shd, g10, g11⟩ := hc.s.loop hl hrnd
       refine ⟨φ, w, rd, shd, [], Stp.refl _ _ _, hc.s, g10, trivial, ?_⟩
       simp only [Instr.enterLoop, Instr.getLoop, Sem.run_bind, run_getLoop' g1, Result.andThen_ok, Sem.run_pure, g11]
     ·simp at hr0
    | none =>
     simp at hr0
     obtain ⟨rfl, rfl, rfl⟩ := hr0
     cases hro : b.roundOf with
     | some r => rw [hro] at hrnd; exact absurd hrnd (by simp [RndR])
     | none =>
      obtain ⟨φ1, w1, g1, g2, g3, g4⟩ := new_other (P := P) hc.s (o := .dfd true) (ro := .deferred (some [])) (.dfd true)
      refine ⟨φ1, w1, w.heap.size, 0, [{ target := .collected w.heap.size, args := #[] }], g2, g3, g4, ⟨⟨_, _, g4, rfl⟩, trivial⟩, ?_⟩
      simp only [Instr.enterLoop, Sem.run_bind, g1, Result.andThen_ok, Sem.run_pure]
   obtain ⟨φ1, w1, rd, shd, md, b1, b2, b3, b4, b5⟩ := hblock
   have hT1 : TR φ1 cf.t a.tmps := hc.t.mono b1.ext
   obtain ⟨φ2, w2, c1, c2, c3, c4⟩ := new_other (P := P) b2 (o := .loop .ready none fn cf.t cf.n ps.toList assign body ds) (ro := .loop { state := .ready, pending := none, fn := b.fn, tmps := a.tmps, params := ps, assign, body, defers := rd }) (by
    have := OR.loop (φ := φ1) (sh := 0) (L := { state := .ready, pending := none, fn := b.fn, tmps := a.tmps, params := ps, assign, body, defers := rd }) hT1 b3 rfl
    simp only [hb, hc.n] at this ⊢
    exact this)
   rw [c1] at b5
   simp only [Result.andThen_ok] at b5
   have hfv : VR φ2 (.func q first caps) (a.eval g) := (ev_ok hc.s (EvR.of_act hc.t) hev).mono (b1.ext.trans c2.ext)
   generalize hgv : a.eval g = gv at hfv
   cases hfv with
   | func _ hx hy =>
    rename_i us vs
    split at h
    ·simp at h
    ·rename_i l hcall
     have hargs : VRs φ2 (first ++ [.yld (s1.new (.loop .ready none fn cf.t cf.n ps.toList assign body ds)).1] ++ caps) (us ++ [Value.func (.yield w1.heap.size) #[] #[]] ++ vs) := (hx.append (.cons (.yld c4) .nil)).append hy
     obtain ⟨v, s2, hm, φ3, u, w3, fr, d1, d2, d3, d4, d5, d6⟩ := callB_ok hD hrec hmg q _ _ l hcall φ2 _ w2 (b.atR { a with defers := md ++ a.defers } (.inRangeFunc w1.heap.size :: k) :: cs) c3 hargs
     have hfn : ∃ fi, D.fn.get q = some fi := by
      unfold callB at hcall
      split at hcall
      ·simp at hcall
      ·exact ⟨_, by assumption⟩
     obtain ⟨fi, hfi⟩ := hfn
     obtain ⟨_, _, _, _, _, _, _, hcf⟩ := fnOf_call hD hfi
     have henter := stepR_rangeFunc (P := P) (b := b) (a := a) (k := k) (cs := cs) (w := w) (g := g) (ps := ps) (assign := assign) (body := body) (l := w1.heap.size) (mark := md) (w₁ := w2) (w₁' := w2) (w₂ := w2)
      (d := { target := .fn (.func q) vs.toArray, args := us.toArray ++ #[Value.func (.yield w1.heap.size) #[] #[]] }) (f := q) (args := (us ++ [Value.func (.yield w1.heap.size) #[] #[]] ++ vs).toArray) b5
      (by simp only [resolve, hgv, Deferred.ofValue, Sem.run_pure]; simp [Act.eval])
      (by
       have e : us.toArray ++ #[Value.func (.yield w1.heap.size) #[] #[]] ++ vs.toArray = (us ++ [Value.func (.yield w1.heap.size) #[] #[]] ++ vs).toArray := by simp
       simp only [invoke, e]
       exact hcf _ _)
     have s1' := Steps.head henter (d4.trans (.one (step_leave_returned d6)))
     rw [finish_atR_inRangeFunc] at s1'
     obtain ⟨r', hr1, hr2⟩ := bindL_mem h _ hm
     simp only at hr1
     split at hr1
     ·rename_i st pd fn2 t2 n2 ps2 as2 bd2 ds2 hl
      have hbl : φ3.blk (s1.new (.loop .ready none fn cf.t cf.n ps.toList assign body ds)).1 = some (w1.heap.size, 0) := d1.ext.blk _ _ c4
      obtain ⟨L, g1, g2, g3, g4, g5, g6, g7, g8, g9, rd2, shd2, g10, g11⟩ := d2.loop hl hbl
      subst g2 g3 g4 g6 g7 g8 g9
      split at hr1
      ·simp at hr1
      ·rename_i hbusy
       have hput := d2.put_loop (L := { L with state := .exhausted }) (by simp [ownB, hl]) hbl g5 g10 g11 (fun _ _ _ hx => by rw [g1] at hx; simp at hx)
       have hend : (Instr.endLoop w1.heap.size).run P w3 = .ok L.pending { w3 with heap := w3.heap.setIfInBounds w1.heap.size (.loop { L with state := .exhausted }) } := by
        simp only [Instr.endLoop, Instr.getLoop, Sem.run_bind, run_getLoop' g1, Result.andThen_ok, Sem.run_pure, setObj]
        rw [if_neg hbusy]
        simp [Sem.run, g1]
       have s2' := s1'.trans (.one (stepR_endRangeFunc (P := P) (b := b) (a := { a with defers := md ++ a.defers }) (k := k) (cs := cs) hend))
       have hstp := ((b1.trans c2).trans d1).trans hput.2
       have hcr : CfR φ3 { t := cf.t, n := cf.n, s := { s2 with h := s2.h.set (s1.new (.loop .ready none fn cf.t cf.n ps.toList assign body ds)).1 (.loop .exhausted L.pending L.fn t2 L.tmps.size L.params.toList L.assign L.body ds2) }, ds := mark ++ cf.ds } { a with defers := md ++ a.defers } { w3 with heap := w3.heap.setIfInBounds w1.heap.size (.loop { L with state := .exhausted }) } := by
        refine ⟨hc.t.mono hstp.ext, hc.n, ?_, hput.1⟩
        have hm : DsR φ3 mark md := b4.mono (c2.ext.trans d1.ext)
        have hd0 : DsR φ3 cf.ds a.defers := hc.ds.mono hstp.ext
        revert hm
        generalize mark = mk
        generalize md = mdd
        intro hm
        induction mk generalizing mdd with
        | nil =>
         cases mdd with
         | nil => exact hd0
         | cons y q => exact hm.elim
        | cons x r ih =>
         cases mdd with
         | nil => exact hm.elim
         | cons y q => exact ⟨hm.1, ih q hm.2⟩
       split at hr1
       ·rename_i hpd
        simp at hr1
        subst hr1
        refine ⟨.normal, _, hr2 _ (List.mem_singleton.2 rfl), φ3, _, _, hstp, hcr, ?_⟩
        rw [show Option.map Item.code L.pending = none from by rw [hpd]; rfl] at s2'
        exact s2'
       ·rename_i id hpd
        simp at hr1
        subst hr1
        refine ⟨.exit id, _, hr2 _ (List.mem_singleton.2 rfl), φ3, _, _, hstp, hcr, ?_⟩
        rw [show Option.map Item.code L.pending = some (.code (.exit id)) from by rw [hpd]; rfl] at s2'
        exact ⟨k, rfl, s2'⟩
       ·rename_i hpd
        simp at hr1
        subst hr1
        refine ⟨.ret, _, hr2 _ (List.mem_singleton.2 rfl), φ3, _, _, hstp, hcr, ?_⟩
        rw [show Option.map Item.code L.pending = some (.code .ret) from by rw [hpd]; rfl] at s2'
        exact ⟨k, s2'⟩
       ·simp at hr1
     ·simp at hr1
 ·simp at h
end Go.Eng

namespace Go.Eng
variable {P : Program} {D : Tab}
theorem run_ok_aux (hD : TabOk P D) (hmix : P.follows .mixedOrders = true) {mg : Merge} (hmg : MergeOk P mg) : ∀ f, RecOk P (run D mg f) ∧ LoopOk P (run D mg f)
 | 0 => ⟨fun rnd fn code cf outs h => by simp [run] at h, fun rnd fn code cf outs h => by simp [run] at h⟩
 | f + 1 => by
  obtain ⟨ih, ihl⟩ := run_ok_aux hD hmix hmg f
  have hloop : ∀ rnd fn x cf outs, run D mg (f + 1) rnd fn (.loop x) cf = some outs → ∀ (φ : Phi) (a : Act) (w : World) (b : Frame) (k : List Item) (cs : List Frame), CfR φ cf a w → b.fn = fn → b.kind = .normal → RndR φ rnd b.roundOf →
    ∃ e cf', (e, cf') ∈ outs ∧ ∃ (φ' : Phi) (a' : Act) (w' : World), Stp φ cf.s w φ' cf'.s w' ∧ CfR φ' cf' a' w' ∧ ArrR P (lone (b.atR a (.code x :: .inLoop x :: k)) cs w) b k cs e a' w' := by
   intro rnd fn x cf outs h φ a w b k cs hc hb hk hr
   simp only [run] at h
   split at h
   ·rename_i l hl
    simp at h; subst h
    exact hmg.lps rnd fn x cf _ hl φ a w b k cs hc hb hk hr
   split at h
   ·simp at h
   ·rename_i cf1 h1
    obtain ⟨e1, c1, m1, φ1, a1, w1, q1, q2, q3⟩ := ih rnd fn x cf _ h1 φ a w b (.inLoop x :: k) cs hc hb hk hr
    simp at m1
    obtain ⟨rfl, rfl⟩ := m1
    obtain ⟨e2, c2, m2, φ2, a2, w2, r1, r2, r3⟩ := ihl rnd fn x _ _ h φ1 a1 w1 b k cs q2 hb hk (hr.mono q1.ext)
    exact ⟨e2, c2, m2, φ2, a2, w2, q1.trans r1, r2, r3.of_steps q3⟩
   ·rename_i outs1 _ h1
    obtain ⟨e1, c1, m1, φ1, a1, w1, q1, q2, q3⟩ := ih rnd fn x cf _ h1 φ a w b (.inLoop x :: k) cs hc hb hk hr
    obtain ⟨r', g1, g2⟩ := bindL_mem h _ m1
    cases e1 with
    | normal =>
     simp only at g1
     obtain ⟨e2, c2, m2, φ2, a2, w2, r1, r2, r3⟩ := ihl rnd fn x _ _ g1 φ1 a1 w1 b k cs q2 hb hk (hr.mono q1.ext)
     exact ⟨e2, c2, g2 _ m2, φ2, a2, w2, q1.trans r1, r2, r3.of_steps q3⟩
    | exit id =>
     simp at g1
     subst g1
     exact ⟨_, c1, g2 _ (List.mem_singleton.2 rfl), φ1, a1, w1, q1, q2, q3.out (fun _ _ => by simp [exitTo]) (by simp)⟩
    | ret =>
     simp at g1
     subst g1
     exact ⟨_, c1, g2 _ (List.mem_singleton.2 rfl), φ1, a1, w1, q1, q2, q3.out (fun _ _ => by simp [exitTo]) (by simp)⟩
  refine ⟨?_, ?_⟩
  ·intro rnd fn code cf outs h φ a w b k cs hc hb hk hr
   cases code with
   | skip =>
    simp [run] at h
    subst h
    exact ⟨.normal, cf, by simp, φ, a, w, Stp.refl _ _ _, hc, .one stepR_skip⟩
   | label l =>
    simp [run] at h
    subst h
    exact ⟨.normal, cf, by simp, φ, a, w, Stp.refl _ _ _, hc, .one stepR_label⟩
   | ret =>
    simp [run] at h
    subst h
    exact ⟨.ret, cf, by simp, φ, a, w, Stp.refl _ _ _, hc, k, .refl _ _⟩
   | exit id =>
    simp [run] at h
    subst h
    exact ⟨.exit id, cf, by simp, φ, a, w, Stp.refl _ _ _, hc, k, rfl, .refl _ _⟩
   | seq x y =>
    simp only [run] at h
    have hs := stepR_seq (P := P) (b := b) (a := a) (k := k) (cs := cs) (w := w) (x := x) (y := y)
    split at h
    ·simp at h
    ·rename_i cf1 h1
     obtain ⟨e1, c1, m1, φ1, a1, w1, q1, q2, q3⟩ := ih rnd fn x cf _ h1 φ a w b (.code y :: k) cs hc hb hk hr
     simp at m1
     obtain ⟨rfl, rfl⟩ := m1
     obtain ⟨e2, c2, m2, φ2, a2, w2, r1, r2, r3⟩ := ih rnd fn y _ _ h φ1 a1 w1 b k cs q2 hb hk (hr.mono q1.ext)
     exact ⟨e2, c2, m2, φ2, a2, w2, q1.trans r1, r2, (r3.of_steps q3).of_steps (.one hs)⟩
    ·rename_i outs1 _ h1
     obtain ⟨e1, c1, m1, φ1, a1, w1, q1, q2, q3⟩ := ih rnd fn x cf _ h1 φ a w b (.code y :: k) cs hc hb hk hr
     obtain ⟨r', g1, g2⟩ := bindL_mem h _ m1
     cases e1 with
     | normal =>
      simp only at g1
      obtain ⟨e2, c2, m2, φ2, a2, w2, r1, r2, r3⟩ := ih rnd fn y _ _ g1 φ1 a1 w1 b k cs q2 hb hk (hr.mono q1.ext)
      exact ⟨e2, c2, g2 _ m2, φ2, a2, w2, q1.trans r1, r2, (r3.of_steps q3).of_steps (.one hs)⟩
     | exit id =>
      simp at g1
      subst g1
      exact ⟨_, c1, g2 _ (List.mem_singleton.2 rfl), φ1, a1, w1, q1, q2, (q3.out (fun _ _ => by simp [exitTo]) (by simp)).of_steps (.one hs)⟩
     | ret =>
      simp at g1
      subst g1
      exact ⟨_, c1, g2 _ (List.mem_singleton.2 rfl), φ1, a1, w1, q1, q2, (q3.out (fun _ _ => by simp [exitTo]) (by simp)).of_steps (.one hs)⟩
   | cond c x y =>
    simp only [run] at h
    split at h
    ·rename_i hev
     have hv := ev_ok hc.s (EvR.of_act hc.t) hev
     generalize hcv : a.eval c = cv at hv
     cases hv
     obtain ⟨e, c', m, φ', a', w', q1, q2, q3⟩ := ih rnd fn x cf _ h φ a w b k cs hc hb hk hr
     have hs := stepR_cond (P := P) (b := b) (a := a) (k := k) (cs := cs) (w := w) (x := x) (y := y) hcv
     exact ⟨e, c', m, φ', a', w', q1, q2, q3.of_steps (.one hs)⟩
    ·rename_i hev
     have hv := ev_ok hc.s (EvR.of_act hc.t) hev
     generalize hcv : a.eval c = cv at hv
     cases hv
     obtain ⟨e, c', m, φ', a', w', q1, q2, q3⟩ := ih rnd fn y cf _ h φ a w b k cs hc hb hk hr
     have hs := stepR_cond (P := P) (b := b) (a := a) (k := k) (cs := cs) (w := w) (x := x) (y := y) hcv
     exact ⟨e, c', m, φ', a', w', q1, q2, q3.of_steps (.one hs)⟩
    ·simp at h
   | block id x =>
    simp only [run] at h
    split at h
    ·simp at h
    ·rename_i outs1 h1
     simp at h
     subst h
     have hs := stepR_block (P := P) (b := b) (a := a) (k := k) (cs := cs) (w := w) (id := id) (c := x)
     obtain ⟨e1, c1, m1, φ1, a1, w1, q1, q2, q3⟩ := ih rnd fn x cf _ h1 φ a w b (.inBlock id :: k) cs hc hb hk hr
     cases e1 with
     | normal => exact ⟨.normal, c1, List.mem_map.2 ⟨_, m1, rfl⟩, φ1, a1, w1, q1, q2, (q3.out (by simp) (fun _ => .one stepR_inBlock)).of_steps (.one hs)⟩
     | ret => exact ⟨.ret, c1, List.mem_map.2 ⟨_, m1, rfl⟩, φ1, a1, w1, q1, q2, (q3.out (by simp) (by simp)).of_steps (.one hs)⟩
     | exit i =>
      obtain ⟨k1, g1, g2⟩ := q3
      cases he : Nat.beq i id with
      | true =>
       have := beq_true he
       subst this
       refine ⟨.normal, c1, List.mem_map.2 ⟨_, m1, by simp⟩, φ1, a1, w1, q1, q2, ?_⟩
       have hx : exitTo i k1 = some k := by rw [g1]; simp [exitTo]
       exact Steps.head hs (g2.trans (.one (stepR_exit hx)))
      | false =>
       have hne : ¬ i = id := by
        rintro rfl
        rw [Nat.beq_refl] at he
        simp at he
       refine ⟨.exit i, c1, List.mem_map.2 ⟨_, m1, by simp [hne]⟩, φ1, a1, w1, q1, q2, k1, ?_, .head hs g2⟩
       rw [g1]
       simp [exitTo, Ne.symm hne]
   | scope x =>
    simp only [run] at h
    obtain ⟨e, c', m, φ', a', w', q1, q2, q3⟩ := ih rnd fn x cf _ h φ a w b (.inScope x :: k) cs hc hb hk hr
    exact ⟨e, c', m, φ', a', w', q1, q2, (q3.out (fun _ _ => by simp [exitTo]) (fun _ => .one stepR_inScope)).of_steps (.one stepR_scope)⟩
   | loop x =>
    obtain ⟨e, c', m, φ', a', w', q1, q2, q3⟩ := hloop rnd fn x cf outs h φ a w b k cs hc hb hk hr
    exact ⟨e, c', m, φ', a', w', q1, q2, q3.of_steps (.one stepR_loop)⟩
   | region id ops draw =>
    simp only [run] at h
    split at h
    ·rename_i l hl
     simp at h
     subst h
     obtain ⟨cf', m, φ', a', w', q1, q2, q3⟩ := forks_ok hmg.orcs (X := fun a w a' w' => ArrR P (lone (b.atR a (.code (.region id ops draw) :: k)) cs w) b k cs .normal a' w') (fun cf l φ a w hl hc => by
      cases draw with
      | true =>
       simp only [if_true] at hl
       exact draw_ok hD hmix ih hmg hl hc b k cs id
      | false =>
       simp only [Bool.false_eq_true, if_false] at hl
       obtain ⟨cf', m, φ', a', w', q1, q2, q3⟩ := seqOps_ok hD ih hmg b k cs ops.toList 0 cf l φ a w (by simp) hl hc
       refine ⟨cf', m, φ', a', w', q1, q2, ?_⟩
       have e : List.range ops.size = List.range' 0 ops.toList.length := by rw [List.range_eq_range']; simp
       refine Steps.head stepR_region ?_
       rw [e]
       exact q3) _ _ _ φ a w hl hc
     exact ⟨.normal, cf', normals_mem m, φ', a', w', q1, q2, q3⟩
    ·simp at h
   | rangeFunc g ps assign body => exact rangeFunc_ok hD hmg ih h φ a w b k cs hc hb hk hr
   | _ => all_goals simp [run] at h
  ·intro rnd fn x cf outs h φ a w b k cs hc hb hk hr
   obtain ⟨e, c', m, φ', a', w', q1, q2, q3⟩ := hloop rnd fn x cf outs h φ a w b k cs hc hb hk hr
   exact ⟨e, c', m, φ', a', w', q1, q2, q3.of_steps (.one stepR_inLoop)⟩
theorem run_ok (hD : TabOk P D) (hmix : P.follows .mixedOrders = true) {mg : Merge} (hmg : MergeOk P mg) (f : Nat) : RecOk P (run D mg f) := (run_ok_aux hD hmix hmg f).1
end Go.Eng

namespace Go.Eng
variable {P : Program} {D : Tab}
theorem eqL_ok {f : AV → AV → Bool} (hf : ∀ a b, f a b = true → a = b) : ∀ {x y : List AV}, eqL f x y = true → x = y
 | [], [], _ => rfl
 | [], _ :: _, h => by simp [eqL] at h
 | _ :: _, [], h => by simp [eqL] at h
 | a :: x, b :: y, h => by
  simp only [eqL, Bool.and_eq_true] at h
  rw [hf a b h.1, eqL_ok hf h.2]
theorem eqCap_ok {a b : ACap} (h : eqCap a b = true) : a = b := by
 cases a <;> cases b <;> simp only [eqCap, Bool.and_eq_true, Bool.false_eq_true] at h
 ·rw [beq_true h]
 ·rw [beq_true h.1, beq_true h.2]
theorem eqAV_ok : ∀ (d : Nat) (a b : AV), eqAV d a b = true → a = b
 | 0, a, b, h => by simp [eqAV] at h
 | d + 1, a, b, h => by
  have ih := eqAV_ok d
  simp only [eqAV] at h
  split at h <;> (try simp only [Bool.and_eq_true, decide_eq_true_eq, beq_iff_eq, Bool.false_eq_true] at h)
  ·rw [h]
  ·rw [h.1, h.2]
  ·rw [bytesEq_data h]
  ·rfl
  ·rw [beq_true h.1, beq_true h.2]
  ·rfl
  ·obtain ⟨⟨⟨h1, h2⟩, h3⟩, h4⟩ := h
   rw [beq_true h1, beq_true h2, beq_true h3, eqCap_ok h4]
  ·rw [h]
  ·rw [beq_true h]
  ·rw [h.1, Tm.beq_eq h.2]
  ·rw [beq_true h.1.1, eqCap_ok h.1.2, Tm.beq_eq h.2]
  ·rw [beq_true h.1.1.1, beq_true h.1.1.2, beq_true h.1.2, Tm.beq_eq h.2]
  ·rfl
  ·rw [beq_true h]
  ·rfl
  ·rfl
  ·rw [beq_true h.1, ih _ _ h.2]
  ·obtain ⟨⟨h1, h2⟩, h3⟩ := h
   rw [beq_true h1, eqL_ok ih h2, eqL_ok ih h3]
  ·rw [beq_true h]
  ·rw [eqL_ok ih h]
  ·rw [eqL_ok ih h]
theorem eqPT_ok {α : Type} {f : α → α → Bool} (hf : ∀ a b, f a b = true → a = b) : ∀ {x y : PT α}, eqPT f x y = true → x = y
 | .nil, .nil, _ => rfl
 | .nil, .nd _ _ _, h => by simp [eqPT] at h
 | .nd _ _ _, .nil, h => by simp [eqPT] at h
 | .nd l v r, .nd l' v' r', h => by
  simp only [eqPT, Bool.and_eq_true] at h
  obtain ⟨⟨h1, h2⟩, h3⟩ := h
  rw [eqPT_ok hf h2, eqPT_ok hf h3]
  cases v <;> cases v' <;> simp only [Bool.false_eq_true] at h1
  ·rfl
  ·rw [hf _ _ h1]
theorem eqEs_ok : ∀ {x y : List (AV × AV × Nat)}, eqEs x y = true → x = y
 | [], [], _ => rfl
 | [], _ :: _, h => by simp [eqEs] at h
 | _ :: _, [], h => by simp [eqEs] at h
 | (k, v, b) :: x, (k', v', b') :: y, h => by
  simp only [eqEs, Bool.and_eq_true] at h
  obtain ⟨⟨⟨h1, h2⟩, h3⟩, h4⟩ := h
  rw [beq_true h1, eqAV_ok _ _ _ h2, eqAV_ok _ _ _ h3, eqEs_ok h4]
theorem eqNs_ok : ∀ {x y : List Nat}, eqNs x y = true → x = y
 | [], [], _ => rfl
 | [], _ :: _, h => by simp [eqNs] at h
 | _ :: _, [], h => by simp [eqNs] at h
 | a :: x, b :: y, h => by
  simp only [eqNs, Bool.and_eq_true] at h
  rw [beq_true h.1, eqNs_ok h.2]
theorem eqON_ok {x y : Option Nat} (h : eqON x y = true) : x = y := by
 cases x <;> cases y <;> simp only [eqON, Bool.false_eq_true] at h
 ·rfl
 ·rw [beq_true h]
theorem eqObj_ok {a b : AObj} (h : eqObj a b = true) : a = b := by
 unfold eqObj at h
 split at h <;> (try simp only [Bool.and_eq_true, Bool.false_eq_true, beq_iff_eq] at h)
 ·rw [beq_true h.1, eqPT_ok (eqAV_ok 5) h.2]
 ·obtain ⟨⟨⟨h1, h2⟩, h3⟩, h4⟩ := h
  rw [beq_true h1, beq_true h2, beq_true h3, eqPT_ok (eqAV_ok 5) h4]
 ·rw [beq_true h.1, eqEs_ok h.2]
 ·obtain ⟨⟨⟨h1, h2⟩, h3⟩, h4⟩ := h
  rw [eqON_ok h1, beq_true h2, eqNs_ok h3, beq_true h4]
 ·rw [bytesEq_data h.1, beq_true h.2]
 ·rw [h]
 ·simp only [decide_eq_true_eq] at h
  rw [h.1.1, ATm.beq_eq h.1.2, Tm.beq_eq h.2]
 ·simp only [decide_eq_true_eq] at h
  rw [h.1.1.1.1, beq_true h.1.1.1.2, beq_true h.1.1.2, ATm.beq_eq h.1.2, Tm.beq_eq h.2]
theorem up1_mem {α : Type} {k : Nat} {x : α} : ∀ {l : List (Nat × α)}, (k, x) ∈ up1 l → ∃ j, k = 2 * j + 1 ∧ (j, x) ∈ l
 | [], h => by simp [up1] at h
 | (i, y) :: r, h => by
  simp only [up1] at h
  rcases List.mem_cons.1 h with h | h
  ·simp at h
   obtain ⟨rfl, rfl⟩ := h
   exact ⟨i, rfl, List.mem_cons_self ..⟩
  ·obtain ⟨j, h1, h2⟩ := up1_mem h
   exact ⟨j, h1, List.mem_cons_of_mem _ h2⟩
theorem up2_mem {α : Type} {k : Nat} {x : α} : ∀ {l : List (Nat × α)}, (k, x) ∈ up2 l → ∃ j, k = 2 * j + 2 ∧ (j, x) ∈ l
 | [], h => by simp [up2] at h
 | (i, y) :: r, h => by
  simp only [up2] at h
  rcases List.mem_cons.1 h with h | h
  ·simp at h
   obtain ⟨rfl, rfl⟩ := h
   exact ⟨i, rfl, List.mem_cons_self ..⟩
  ·obtain ⟨j, h1, h2⟩ := up2_mem h
   exact ⟨j, h1, List.mem_cons_of_mem _ h2⟩
theorem toL_mem {α : Type} : ∀ {t : PT α} {k : Nat} {x : α}, (k, x) ∈ t.toL → t.get k = some x
 | .nil, k, x, h => by simp [PT.toL] at h
 | .nd l v r, k, x, h => by
  simp only [PT.toL, List.mem_append] at h
  rcases h with (h | h) | h
  ·cases v with
   | none => simp at h
   | some y =>
    simp at h
    obtain ⟨rfl, rfl⟩ := h
    rfl
  ·obtain ⟨j, rfl, h2⟩ := up1_mem h
   have := toL_mem h2
   rw [PT.get_succ, if_pos (by omega)]
   have e2 : 2 * j / 2 = j := by omega
   rw [e2]
   exact this
  ·obtain ⟨j, rfl, h2⟩ := up2_mem h
   have := toL_mem h2
   rw [show 2 * j + 2 = (2 * j + 1) + 1 from rfl, PT.get_succ, if_neg (by omega)]
   have e2 : (2 * j + 1) / 2 = j := by omega
   rw [e2]
   exact this
theorem kept_get {nx : Nat} {seen : PT Bool} {b : Nat} {o : AObj} : ∀ {l : List (Nat × AObj)} {h : PT AObj}, (kept nx seen l h).get b = some o → h.get b = some o ∨ (b, o) ∈ l
 | [], h, hb => .inl hb
 | (b0, o0) :: r, h, hb => by
  have key : ∀ {h' : PT AObj}, (h' = h ∨ h' = h.set b0 o0) → (kept nx seen r h').get b = some o → h.get b = some o ∨ (b, o) ∈ (b0, o0) :: r := by
   intro h' hh hb
   rcases kept_get hb with h1 | h1
   ·rcases hh with rfl | rfl
    ·exact .inl h1
    ·rw [PT.get_set] at h1
     by_cases e : b = b0
     ·subst e
      simp at h1
      subst h1
      exact .inr (List.mem_cons_self ..)
     ·rw [if_neg e] at h1
      exact .inl h1
   ·exact .inr (List.mem_cons_of_mem _ h1)
  simp only [kept] at hb
  split at hb
  ·exact key (.inr rfl) hb
  ·split at hb
   ·exact key (.inr rfl) hb
   ·exact key (.inl rfl) hb
theorem gc_get {nx : Nat} {x : AV × St} {b : Nat} {o : AObj} (h : (gc nx x).get b = some o) : x.2.h.get b = some o := by
 unfold gc at h
 rcases kept_get h with h | h
 ·simp at h
 ·exact toL_mem h
theorem maxNx_le : ∀ {l : List (AV × St)} {n : Nat}, n ≤ maxNx l n ∧ ∀ v s, (v, s) ∈ l → s.nx ≤ maxNx l n
 | [], n => ⟨Nat.le_refl _, by simp⟩
 | (v0, s0) :: r, n => by
  simp only [maxNx]
  obtain ⟨h1, h2⟩ := maxNx_le (l := r) (n := max n s0.nx)
  refine ⟨by omega, fun v s hm => ?_⟩
  rcases List.mem_cons.1 hm with hm | hm
  ·simp at hm
   obtain ⟨rfl, rfl⟩ := hm
   omega
  ·exact h2 v s hm
theorem maxNc_le : ∀ {l : List (AV × St)} {n : Nat}, n ≤ maxNc l n ∧ ∀ v s, (v, s) ∈ l → s.nc ≤ maxNc l n
 | [], n => ⟨Nat.le_refl _, by simp⟩
 | (v0, s0) :: r, n => by
  simp only [maxNc]
  obtain ⟨h1, h2⟩ := maxNc_le (l := r) (n := max n s0.nc)
  refine ⟨by omega, fun v s hm => ?_⟩
  rcases List.mem_cons.1 hm with hm | hm
  ·simp at hm
   obtain ⟨rfl, rfl⟩ := hm
   omega
  ·exact h2 v s hm
theorem alike_ok {v : AV} {h : PT AObj} : ∀ {l : List (AV × St)}, alike v h l = true → ∃ u s, (u, s) ∈ l ∧ eqAV 6 v u = true ∧ eqPT eqObj h s.h = true
 | [], hh => by simp [alike] at hh
 | (u, s) :: r, hh => by
  simp only [alike, Bool.or_eq_true, Bool.and_eq_true] at hh
  rcases hh with hh | hh
  ·exact ⟨u, s, List.mem_cons_self .., hh.1, hh.2⟩
  ·obtain ⟨u', s', h1, h2⟩ := alike_ok hh
   exact ⟨u', s', List.mem_cons_of_mem _ h1, h2⟩
theorem memF_ok {f : Fm} : ∀ {l : List Fm}, memF l f = true → f ∈ l
 | [], h => by simp [memF] at h
 | x :: r, h => by
  simp only [memF, Bool.or_eq_true] at h
  rcases h with h | h
  ·rw [Fm.beq_eq h]; exact List.mem_cons_self ..
  ·exact List.mem_cons_of_mem _ (memF_ok h)
theorem meetF_ok {x : List Fm} {f : Fm} : ∀ {l : List Fm}, f ∈ meetF x l → f ∈ l ∧ f ∈ x
 | [], h => by simp [meetF] at h
 | g :: r, h => by
  simp only [meetF] at h
  split at h
  ·rename_i hm
   rcases List.mem_cons.1 h with rfl | h
   ·exact ⟨List.mem_cons_self .., memF_ok hm⟩
   ·exact ⟨List.mem_cons_of_mem _ (meetF_ok h).1, (meetF_ok h).2⟩
  ·exact ⟨List.mem_cons_of_mem _ (meetF_ok h).1, (meetF_ok h).2⟩
theorem commonF_ok {nx0 : Nat} {v : AV} {h : PT AObj} {f : Fm} : ∀ {r : List (AV × St)} {fs : List Fm}, f ∈ commonF nx0 v h r fs → f ∈ fs ∧ ∀ y, y ∈ r → eqAV 6 y.1 v = true → eqPT eqObj (gc nx0 y) h = true → f ∈ y.2.fs
 | [], fs, hf => ⟨hf, by simp⟩
 | x :: r, fs, hf => by
  simp only [commonF] at hf
  split at hf
  ·obtain ⟨h1, h2⟩ := commonF_ok hf
   obtain ⟨h3, h4⟩ := meetF_ok h1
   refine ⟨h3, fun y hy e1 e2 => ?_⟩
   rcases List.mem_cons.1 hy with rfl | hy
   ·exact h4
   ·exact h2 y hy e1 e2
  ·rename_i hn
   obtain ⟨h1, h2⟩ := commonF_ok hf
   refine ⟨h1, fun y hy e1 e2 => ?_⟩
   rcases List.mem_cons.1 hy with rfl | hy
   ·rw [e1, e2] at hn; simp at hn
   ·exact h2 y hy e1 e2
def AllN (nx0 nx nc : Nat) (l acc : List (AV × St)) : Prop :=
 ∀ u s', (u, s') ∈ acc → s'.nx = nx ∧ s'.nc = nc ∧ ∀ y, y ∈ l → eqAV 6 y.1 u = true → eqPT eqObj (gc nx0 y) s'.h = true → ∀ f, f ∈ s'.fs → f ∈ y.2.fs
theorem mergeL_ok {nx0 nx nc : Nat} : ∀ (l acc : List (AV × St)), AllN nx0 nx nc l acc → (∀ x, x ∈ acc → x ∈ mergeL nx0 nx nc l acc) ∧
  (∀ v s, (v, s) ∈ l → ∃ fs, (∀ f, f ∈ fs → f ∈ s.fs) ∧ (v, { h := gc nx0 (v, s), nx := nx, nc := nc, fs := fs }) ∈ mergeL nx0 nx nc l acc)
 | [], acc, _ => ⟨fun x h => h, by simp⟩
 | x :: r, acc, ha => by
  simp only [mergeL]
  split
  ·rename_i hal
   have ha' : AllN nx0 nx nc r acc := fun u s' hm => ⟨(ha u s' hm).1, (ha u s' hm).2.1, fun y hy => (ha u s' hm).2.2 y (List.mem_cons_of_mem _ hy)⟩
   obtain ⟨g1, g2⟩ := mergeL_ok (nx0 := nx0) r acc ha'
   refine ⟨g1, fun v s hm => ?_⟩
   rcases List.mem_cons.1 hm with rfl | hm
   ·obtain ⟨u, s', h1, h2, h3⟩ := alike_ok hal
    obtain ⟨h4, h5, h6⟩ := ha _ _ h1
    have hf := h6 (v, s) (List.mem_cons_self ..) h2 h3
    have e1 := eqAV_ok _ _ _ h2
    have e2 := eqPT_ok (fun _ _ => eqObj_ok) h3
    simp only at e1 e2
    subst e1
    refine ⟨s'.fs, hf, ?_⟩
    have : s' = { h := gc nx0 (v, s), nx := nx, nc := nc, fs := s'.fs } := by
     cases s'
     simp at e2 h4 h5
     rw [e2, h4, h5]
    rw [← this]
    exact g1 _ h1
   ·exact g2 v s hm
  ·have ha' : AllN nx0 nx nc r ((x.1, { h := gc nx0 x, nx, nc, fs := commonF nx0 x.1 (gc nx0 x) r x.2.fs }) :: acc) := by
    intro v s hm
    rcases List.mem_cons.1 hm with hm | hm
    ·simp at hm
     rw [hm.2, hm.1]
     exact ⟨rfl, rfl, fun y hy e1 e2 f hf => (commonF_ok hf).2 y hy e1 e2⟩
    ·obtain ⟨h1, h2, h3⟩ := ha v s hm
     exact ⟨h1, h2, fun y hy => h3 y (List.mem_cons_of_mem _ hy)⟩
   obtain ⟨g1, g2⟩ := mergeL_ok (nx0 := nx0) r _ ha'
   refine ⟨fun y hy => g1 y (List.mem_cons_of_mem _ hy), fun v s hm => ?_⟩
   rcases List.mem_cons.1 hm with rfl | hm
   ·exact ⟨_, fun f hf => (commonF_ok hf).1, g1 _ (List.mem_cons_self ..)⟩
   ·exact g2 v s hm
theorem Rel.fewer {φ : Phi} {s : St} {w : World} (h : Rel φ s w) {fs : List Fm} (hf : ∀ f, f ∈ fs → f ∈ s.fs) : Rel φ { s with fs } w ∧ Stp φ s w φ { s with fs } w :=
 ⟨⟨h.obj, h.inj, h.fresh, h.freshc, h.glob, h.gnx, fun f hm => h.facts f (hf f hm)⟩,
  ⟨Phi.le.rfl' φ, fun b _ sh hb hr => .inr ⟨b, sh, hb, hr⟩, fun b _ sh hb hr => .inr ⟨b, sh, hb, hr⟩, fun _ _ _ => rfl, Nat.le_refl _, rfl, rfl, rfl, Nat.le_refl _, Nat.le_refl _, fun _ _ => rfl, fun _ arr _ fz h => ⟨arr, fz, h, rfl⟩, fun _ => Nat.le_refl _⟩⟩
theorem Rel.raise {φ : Phi} {s : St} {w : World} (h : Rel φ s w) {nx nc : Nat} (h1 : s.nx ≤ nx) (h2 : s.nc ≤ nc) : Rel φ { s with nx, nc } w ∧ Stp φ s w φ { s with nx, nc } w :=
 ⟨⟨h.obj, h.inj, fun b hb => h.fresh b (Nat.le_trans h1 hb), fun k hk => h.freshc k (Nat.le_trans h2 hk), h.glob, Nat.le_trans h.gnx h1, h.facts⟩,
  ⟨Phi.le.rfl' φ, fun b _ sh hb hr => .inr ⟨b, sh, hb, hr⟩, fun b _ sh hb hr => .inr ⟨b, sh, hb, hr⟩, fun _ _ _ => rfl, Nat.le_refl _, rfl, rfl, rfl, h1, h2, fun _ _ => rfl, fun _ arr _ fz h => ⟨arr, fz, h, rfl⟩, fun _ => Nat.le_refl _⟩⟩
theorem mergeAll_ok (l : List (AV × St)) (s0 : St) (φ0 : Phi) (w0 : World) (v : AV) (s1 : St) (φ : Phi) (w : World) (u : Value) (hm : (v, s1) ∈ l) (hs : Stp φ0 s0 w0 φ s1 w) (hr : Rel φ s1 w) (hv : VR φ v u) :
  ∃ v' s', (v', s') ∈ mergeAll l s0 ∧ Stp φ0 s0 w0 φ s' w ∧ Rel φ s' w ∧ VR φ v' u := by
 unfold mergeAll
 split
 ·simp at hm
 ·exact ⟨v, s1, hm, hs, hr, hv⟩
 ·obtain ⟨_, g2⟩ := mergeL_ok (nx0 := s0.nx) (nx := maxNx l s0.nx) (nc := maxNc l s0.nc) l [] (by intro v s h; simp at h)
  obtain ⟨fs, f1, f2⟩ := g2 v s1 hm
  obtain ⟨a1, a2⟩ := hr.less (h' := gc s0.nx (v, s1)) (fun b o hb => gc_get hb)
  obtain ⟨b1, b2⟩ := a1.raise (nx := maxNx l s0.nx) (nc := maxNc l s0.nc) (maxNx_le.2 v s1 hm) (maxNc_le.2 v s1 hm)
  obtain ⟨c1, c2⟩ := b1.fewer (fs := fs) f1
  exact ⟨v, _, f2, ((hs.trans a2).trans b2).trans c2, c1, hv⟩
theorem merge_ok : MergeOk P merge := ⟨mergeAll_ok, fun g args s outs h => by simp [merge] at h, fun _ _ _ _ _ h => by simp [merge] at h, fun _ _ _ h => by simp [merge] at h⟩
end Go.Eng

