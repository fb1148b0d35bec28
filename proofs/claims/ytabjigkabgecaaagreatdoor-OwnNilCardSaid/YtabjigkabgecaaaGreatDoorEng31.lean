/-
  The abstract interpreter, its soundness: code.
-/
import Derived.Test.YtabjigkabgecaaaGreatDoorEng30
namespace Go.Eng
variable {P : Program} {D : Tab}

section
variable {b : Frame} {a : Act} {k : List Item} {cs : List Frame} {w : World}
theorem stepR_scope {c : Code} : step P (lone (b.atR a (.code (.scope c) :: k)) cs w) = .next (lone (b.atR a (.code c :: .inScope c :: k)) cs w) :=
  step_lone_go (by simp [stepG, stepG.exec, Frame.atR])
theorem stepR_inScope {c : Code} : step P (lone (b.atR a (.inScope c :: k)) cs w) = .next (lone (b.atR a k) cs w) :=
  step_lone_go (by simp [stepG, stepG.exec, Frame.atR])
end

/-- Left by the way that it was left, further out. -/
theorem ArrR.out {m : Machine} {b : Frame} {k k' : List Item} {cs : List Frame} {e : Ex} {a : Act} {w : World} (h : ArrR P m b k' cs e a w) (hx : ∀ id, e = .exit id → exitTo id k' = exitTo id k)
    (hn : e = .normal → Steps P (lone (b.atR a k') cs w) (lone (b.atR a k) cs w)) : ArrR P m b k cs e a w := by
  cases e with
  | normal => exact Steps.trans h (hn rfl)
  | exit id => obtain ⟨k1, h1, h2⟩ := h; exact ⟨k1, h1.trans (hx id rfl), h2⟩
  | ret => exact h

/-! ### Both ways -/
theorem CfR.withF {φ : Phi} {cf : Cf} {a : Act} {w : World} (h : CfR φ cf a w) {f : Fm} (hf : f.holds φ.env) : CfR φ (withF cf f) a w :=
  ⟨h.t, h.n, h.ds, ⟨h.s.obj, h.s.inj, h.s.fresh, h.s.freshc, h.s.glob, h.s.gnx, fun g hg => by
    rcases List.mem_cons.1 hg with rfl | hg
    · exact hf
    · exact h.s.facts g hg⟩⟩

theorem Stp.withF {φ φ' : Phi} {cf : Cf} {f : Fm} {s' : St} {w w' : World} (h : Stp φ (withF cf f).s w φ' s' w') : Stp φ cf.s w φ' s' w' :=
  ⟨h.ext, h.own, h.keep, h.size, h.os, h.out, h.tape, h.nx, h.nc, h.old⟩

theorem forks_ok {go : Cf → Option (List Cf)} {need : Cf → Option Fm} {X : Act → World → Act → World → Prop}
    (hgo : ∀ cf l φ a w, go cf = some l → CfR φ cf a w → ∃ cf', cf' ∈ l ∧ ∃ (φ' : Phi) (a' : Act) (w' : World), Stp φ cf.s w φ' cf'.s w' ∧ CfR φ' cf' a' w' ∧ X a w a' w') :
    ∀ (d : Nat) (cf : Cf) (l : List Cf) (φ : Phi) (a : Act) (w : World), forks go need d cf = some l → CfR φ cf a w → ∃ cf', cf' ∈ l ∧ ∃ (φ' : Phi) (a' : Act) (w' : World), Stp φ cf.s w φ' cf'.s w' ∧ CfR φ' cf' a' w' ∧ X a w a' w'
  | 0, cf, l, φ, a, w, h, hc => hgo cf l φ a w h hc
  | d + 1, cf, l, φ, a, w, h, hc => by
    simp only [forks] at h
    split at h
    · rename_i l' hl
      simp at h; subst h
      exact hgo cf _ φ a w hl hc
    · split at h
      · simp at h
      · rename_i f hf
        split at h
        · rename_i x y hx hy
          simp at h; subst h
          rcases f.both φ.env with g | g
          · obtain ⟨cf', m, φ', a', w', q1, q2, q3⟩ := forks_ok hgo d _ _ φ a w hx (hc.withF g)
            exact ⟨cf', List.mem_append.2 (.inl m), φ', a', w', q1.withF, q2, q3⟩
          · obtain ⟨cf', m, φ', a', w', q1, q2, q3⟩ := forks_ok hgo d _ _ φ a w hy (hc.withF g)
            exact ⟨cf', List.mem_append.2 (.inr m), φ', a', w', q1.withF, q2, q3⟩
        · simp at h

def LoopOk (P : Program) (rec : Rec) : Prop :=
  ∀ rnd fn code cf outs, rec rnd fn (.loop code) cf = some outs → ∀ (φ : Phi) (a : Act) (w : World) (b : Frame) (k : List Item) (cs : List Frame), CfR φ cf a w → b.fn = fn → b.kind = .normal → RndR φ rnd b.roundOf →
    ∃ e cf', (e, cf') ∈ outs ∧ ∃ (φ' : Phi) (a' : Act) (w' : World), Stp φ cf.s w φ' cf'.s w' ∧ CfR φ' cf' a' w' ∧ ArrR P (lone (b.atR a (.inLoop code :: k)) cs w) b k cs e a' w'

theorem forceN_eq {α : Type} (n : Nat) (k : Nat → α) : forceN n k = k n := by cases n <;> rfl
theorem forceP_eq {α β : Type} (t : PT β) (k : PT β → α) : forceP t k = k t := by cases t <;> rfl
theorem forceC_eq {α : Type} (c : Cf) (k : Cf → α) : forceC c k = k c := by
  obtain ⟨t, n, ⟨h, nx, nc⟩, ds⟩ := c
  simp only [forceC, forceP_eq, forceN_eq]

theorem normals_mem : ∀ {l : List Cf} {c : Cf}, c ∈ l → (Ex.normal, c) ∈ normals l
  | [], c, h => by simp at h
  | x :: r, c, h => by
    rw [normals, forceC_eq]
    rcases List.mem_cons.1 h with rfl | h
    · exact List.mem_cons_self ..
    · exact List.mem_cons_of_mem _ (normals_mem h)

theorem rangeFunc_ok (hD : TabOk P D) {mg : Merge} (hmg : MergeOk P mg) {f : Nat} (hrec : RecOk P (run D mg f)) {rnd : Option Nat} {fn : FuncId} {g : Operand} {ps : Array Tmp} {assign body : Code} {cf : Cf} {outs : List (Ex × Cf)}
    (h : run D mg (f + 1) rnd fn (.rangeFunc g ps assign body) cf = some outs) (φ : Phi) (a : Act) (w : World) (b : Frame) (k : List Item) (cs : List Frame) (hc : CfR φ cf a w) (hb : b.fn = fn) (_ : b.kind = .normal) (hrnd : RndR φ rnd b.roundOf) :
    ∃ e cf', (e, cf') ∈ outs ∧ ∃ (φ' : Phi) (a' : Act) (w' : World), Stp φ cf.s w φ' cf'.s w' ∧ CfR φ' cf' a' w' ∧ ArrR P (lone (b.atR a (.code (.rangeFunc g ps assign body) :: k)) cs w) b k cs e a' w' := by
  simp only [run] at h
  split at h
  · rename_i q first caps hev
    split at h
    · simp at h
    · rename_i ds s1 mark hr0
      -- the block for the deferred calls
      have hblock : ∃ φ1 w1 rd shd md, Stp φ cf.s w φ1 s1 w1 ∧ Rel φ1 s1 w1 ∧ φ1.blk ds = some (rd, shd) ∧ DsR φ1 mark md ∧
          (Instr.enterLoop b.fn a.tmps ps assign body b.roundOf).run P w = ((newObj (.loop { state := .ready, pending := none, fn := b.fn, tmps := a.tmps, params := ps, assign, body, defers := rd })).run P w1).andThen fun l w' => .ok (l, md) w' := by
        cases rnd with
        | some l =>
          simp only at hr0
          split at hr0
          · rename_i st pd fn2 t2 n2 ps2 as2 bd2 ds2 hl
            simp at hr0
            obtain ⟨rfl, rfl, rfl⟩ := hr0
            cases hro : b.roundOf with
            | none => rw [hro] at hrnd; exact absurd hrnd (by simp [RndR])
            | some r =>
              rw [hro] at hrnd
              obtain ⟨sh, hrnd⟩ := hrnd
              obtain ⟨L, g1, g2, g3, g4, g5, g6, g7, g8, g9, rd, shd, g10, g11⟩ := hc.s.loop hl hrnd
              refine ⟨φ, w, rd, shd, [], Stp.refl _ _ _, hc.s, g10, trivial, ?_⟩
              simp only [Instr.enterLoop, Instr.getLoop, Sem.run_bind, run_getLoop' g1, Result.andThen_ok, Sem.run_pure, g11]
          · simp at hr0
        | none =>
          simp at hr0
          obtain ⟨rfl, rfl, rfl⟩ := hr0
          cases hro : b.roundOf with
          | some r => rw [hro] at hrnd; exact absurd hrnd (by simp [RndR])
          | none =>
            obtain ⟨φ1, w1, g1, g2, g3, g4⟩ := new_other (P := P) hc.s (o := .dfd true) (ro := .deferred (some [])) (.dfd true)
            refine ⟨φ1, w1, w.heap.size, 0, [{ target := .collected w.heap.size, args := #[] }], g2, g3, g4, ⟨⟨_, _, g4, rfl⟩, trivial⟩, ?_⟩
            simp only [Instr.enterLoop, Sem.run_bind, g1, Result.andThen_ok, Sem.run_pure]
      obtain ⟨φ1, w1, rd, shd, md, b1, b2, b3, b4, b5⟩ := hblock
      have hT1 : TR φ1 cf.t a.tmps := hc.t.mono b1.ext
      obtain ⟨φ2, w2, c1, c2, c3, c4⟩ := new_other (P := P) b2 (o := .loop .ready none fn cf.t cf.n ps.toList assign body ds) (ro := .loop { state := .ready, pending := none, fn := b.fn, tmps := a.tmps, params := ps, assign, body, defers := rd }) (by
        have := OR.loop (φ := φ1) (sh := 0) (L := { state := .ready, pending := none, fn := b.fn, tmps := a.tmps, params := ps, assign, body, defers := rd }) hT1 b3 rfl
        simp only [hb, hc.n] at this ⊢
        exact this)
      rw [c1] at b5
      simp only [Result.andThen_ok] at b5
      have hfv : VR φ2 (.func q first caps) (a.eval g) := (ev_ok hc.s (EvR.of_act hc.t) hev).mono (b1.ext.trans c2.ext)
      generalize hgv : a.eval g = gv at hfv
      cases hfv with
      | func _ hx hy =>
        rename_i us vs
        split at h
        · simp at h
        · rename_i l hcall
          have hargs : VRs φ2 (first ++ [.yld (s1.new (.loop .ready none fn cf.t cf.n ps.toList assign body ds)).1] ++ caps) (us ++ [Value.func (.yield w1.heap.size) #[] #[]] ++ vs) := (hx.append (.cons (.yld c4) .nil)).append hy
          obtain ⟨v, s2, hm, φ3, u, w3, fr, d1, d2, d3, d4, d5, d6⟩ := callB_ok hD hrec hmg q _ _ l hcall φ2 _ w2 (b.atR { a with defers := md ++ a.defers } (.inRangeFunc w1.heap.size :: k) :: cs) c3 hargs
          have hfn : ∃ fi, D.fn.get q = some fi := by
            unfold callB at hcall
            split at hcall
            · simp at hcall
            · exact ⟨_, by assumption⟩
          obtain ⟨fi, hfi⟩ := hfn
          obtain ⟨_, _, _, _, _, _, _, hcf⟩ := fnOf_call hD hfi
          have henter := stepR_rangeFunc (P := P) (b := b) (a := a) (k := k) (cs := cs) (w := w) (g := g) (ps := ps) (assign := assign) (body := body) (l := w1.heap.size) (mark := md) (w₁ := w2) (w₁' := w2) (w₂ := w2)
            (d := { target := .fn (.func q) vs.toArray, args := us.toArray ++ #[Value.func (.yield w1.heap.size) #[] #[]] }) (f := q) (args := (us ++ [Value.func (.yield w1.heap.size) #[] #[]] ++ vs).toArray) b5
            (by simp only [resolve, hgv, Deferred.ofValue, Sem.run_pure]; simp [Act.eval])
            (by
              have e : us.toArray ++ #[Value.func (.yield w1.heap.size) #[] #[]] ++ vs.toArray = (us ++ [Value.func (.yield w1.heap.size) #[] #[]] ++ vs).toArray := by simp
              simp only [invoke, e]
              exact hcf _ _)
          have s1' := Steps.head henter (d4.trans (.one (step_leave_returned d6)))
          rw [finish_atR_inRangeFunc] at s1'
          obtain ⟨r', hr1, hr2⟩ := bindL_mem h _ hm
          simp only at hr1
          split at hr1
          · rename_i st pd fn2 t2 n2 ps2 as2 bd2 ds2 hl
            have hbl : φ3.blk (s1.new (.loop .ready none fn cf.t cf.n ps.toList assign body ds)).1 = some (w1.heap.size, 0) := d1.ext.blk _ _ c4
            obtain ⟨L, g1, g2, g3, g4, g5, g6, g7, g8, g9, rd2, shd2, g10, g11⟩ := d2.loop hl hbl
            subst g2 g3 g4 g6 g7 g8 g9
            split at hr1
            · simp at hr1
            · rename_i hbusy
              have hput := d2.put_loop (L := { L with state := .exhausted }) (by simp [hl]) hbl g5 g10 g11
              have hend : (Instr.endLoop w1.heap.size).run P w3 = .ok L.pending { w3 with heap := w3.heap.setIfInBounds w1.heap.size (.loop { L with state := .exhausted }) } := by
                simp only [Instr.endLoop, Instr.getLoop, Sem.run_bind, run_getLoop' g1, Result.andThen_ok, Sem.run_pure, setObj]
                rw [if_neg hbusy]
                simp [Sem.run, g1]
              have s2' := s1'.trans (.one (stepR_endRangeFunc (P := P) (b := b) (a := { a with defers := md ++ a.defers }) (k := k) (cs := cs) hend))
              have hstp := ((b1.trans c2).trans d1).trans hput.2
              have hcr : CfR φ3 { t := cf.t, n := cf.n, s := { s2 with h := s2.h.set (s1.new (.loop .ready none fn cf.t cf.n ps.toList assign body ds)).1 (.loop .exhausted L.pending L.fn t2 L.tmps.size L.params.toList L.assign L.body ds2) }, ds := mark ++ cf.ds } { a with defers := md ++ a.defers } { w3 with heap := w3.heap.setIfInBounds w1.heap.size (.loop { L with state := .exhausted }) } := by
                refine ⟨hc.t.mono hstp.ext, hc.n, ?_, hput.1⟩
                have hm : DsR φ3 mark md := b4.mono (c2.ext.trans d1.ext)
                have hd0 : DsR φ3 cf.ds a.defers := hc.ds.mono hstp.ext
                revert hm
                generalize mark = mk
                generalize md = mdd
                intro hm
                induction mk generalizing mdd with
                | nil =>
                  cases mdd with
                  | nil => exact hd0
                  | cons y q => exact hm.elim
                | cons x r ih =>
                  cases mdd with
                  | nil => exact hm.elim
                  | cons y q => exact ⟨hm.1, ih q hm.2⟩
              split at hr1
              · rename_i hpd
                simp at hr1
                subst hr1
                refine ⟨.normal, _, hr2 _ (List.mem_singleton.2 rfl), φ3, _, _, hstp, hcr, ?_⟩
                rw [show Option.map Item.code L.pending = none from by rw [hpd]; rfl] at s2'
                exact s2'
              · rename_i id hpd
                simp at hr1
                subst hr1
                refine ⟨.exit id, _, hr2 _ (List.mem_singleton.2 rfl), φ3, _, _, hstp, hcr, ?_⟩
                rw [show Option.map Item.code L.pending = some (.code (.exit id)) from by rw [hpd]; rfl] at s2'
                exact ⟨k, rfl, s2'⟩
              · rename_i hpd
                simp at hr1
                subst hr1
                refine ⟨.ret, _, hr2 _ (List.mem_singleton.2 rfl), φ3, _, _, hstp, hcr, ?_⟩
                rw [show Option.map Item.code L.pending = some (.code .ret) from by rw [hpd]; rfl] at s2'
                exact ⟨k, s2'⟩
              · simp at hr1
          · simp at hr1
  · simp at h

end Go.Eng
