/-
  The abstract interpreter, its soundness: a region that draws, whole.
-/
import Derived.Test.YtabjigkabgecaaaGreatDoorEng29
import Derived.Orders
namespace Go.Eng
variable {P : Program} {D : Tab} {ops : Array Oper} {rec : Rec} {mg : Merge} {base n : Nat} {gs : Nat → Rg}
variable {φ0 φ : Phi} {s0 : St} {w0 w : World} {a : Act}

def done (listed : Array Bool) (j : Nat) : Prop := listed[j]? = some true

theorem all_done (reg : Fwd ops) {listed : Array Bool} (hsz : listed.size = ops.size) (h : Region.ready .any ops listed = []) : ∀ j, j < ops.size → done listed j := by
  intro j
  induction j using Nat.strongRecOn with
  | _ j ih =>
    intro hj
    have hlj : j < listed.size := by omega
    cases hb : listed[j] with
    | true => unfold done; rw [Array.getElem?_eq_getElem hlj, hb]
    | false =>
      exfalso
      have ho : ops[j]? = some ops[j] := by simp [hj]
      have : j ∈ Region.ready .any ops listed := mem_ready.2 ⟨by simp [Array.getD_eq_getD_getElem?, hlj, hb], ops[j], ho, fun e he hbd => by
        have hlt := reg j _ ho e he hbd
        have := ih e.on hlt (by omega)
        unfold done at this
        simp [Array.getD_eq_getD_getElem?, this]⟩
      rw [h] at this
      simp at this

def left (listed : Array Bool) : Nat := (List.range listed.size).countP fun j => !(listed.getD j true)

theorem countP_one {p q : Nat → Bool} {i : Nat} : ∀ {l : List Nat}, l.Nodup → i ∈ l → p i = true → q i = false → (∀ j, j ≠ i → q j = p j) → l.countP q + 1 = l.countP p
  | [], _, h, _, _, _ => by simp at h
  | x :: r, hn, hm, hp, hq, he => by
    rw [List.nodup_cons] at hn
    by_cases e : x = i
    · subst e
      have : r.countP q = r.countP p := by
        apply List.countP_congr
        intro y hy
        rw [he y (by rintro rfl; exact hn.1 hy)]
      simp [hp, hq, this]
    · have hm' : i ∈ r := by
        rcases List.mem_cons.1 hm with h | h
        · exact absurd h.symm e
        · exact h
      have := countP_one hn.2 hm' hp hq he
      simp only [List.countP_cons, he x e]
      omega

theorem left_set {listed : Array Bool} {i : Nat} (hi : i < listed.size) (h : listed.getD i true = false) : left (listed.setIfInBounds i true) + 1 = left listed := by
  unfold left
  rw [Array.size_setIfInBounds]
  refine countP_one (i := i) List.nodup_range (by simp [hi]) (by simp [h]) (by simp [Array.getD_eq_getD_getElem?, hi]) (fun j hj => ?_)
  simp [Array.getD_eq_getD_getElem?, Array.getElem?_setIfInBounds_ne (Ne.symm hj)]

theorem draw_go (hD : TabOk P D) (hrec : RecOk P rec) (hmg : MergeOk P mg) (reg : RegR ops) (hw : Walk D rec mg ops base n gs) (h0 : (gs 0).past = []) (h0' : (gs 0).pend = []) (hbase : s0.nx ≤ base) (b : Frame) (k : List Item) (cs : List Frame) :
    ∀ (fuel t : Nat) (listed : Array Bool) (φ : Phi) (a : Act) (w : World), listed.size = ops.size → left listed ≤ fuel → Closed ops (done listed) → Inv D ops gs base n φ0 s0 w0 (done listed) φ a w →
      ∃ φ' a' w', Steps P (lone (b.atR a (.inRegion ops (Region.linearise.go .any ops fuel t listed []) :: k)) cs w) (lone (b.atR a' k) cs w') ∧ a'.defers = a.defers ∧ ∃ E, (∀ j, j < ops.size → E j) ∧ Inv D ops gs base n φ0 s0 w0 E φ' a' w'
  | fuel, t, listed, φ, a, w, hsz, hleft, hc, inv => by
    have hend : Region.ready .any ops listed = [] → Region.linearise.go .any ops fuel t listed [] = [] → ∃ φ' a' w', Steps P (lone (b.atR a (.inRegion ops (Region.linearise.go .any ops fuel t listed []) :: k)) cs w) (lone (b.atR a' k) cs w') ∧ a'.defers = a.defers ∧ ∃ E, (∀ j, j < ops.size → E j) ∧ Inv D ops gs base n φ0 s0 w0 E φ' a' w' := by
      intro hr hl
      rw [hl]
      exact ⟨φ, a, w, .one stepR_region_end, rfl, done listed, all_done reg.fwd hsz hr, inv⟩
    cases fuel with
    | zero =>
      refine hend ?_ (by simp [Region.linearise.go])
      cases hr : Region.ready .any ops listed with
      | nil => rfl
      | cons i r =>
        exfalso
        have hm : i ∈ Region.ready .any ops listed := by rw [hr]; exact List.mem_cons_self ..
        obtain ⟨g1, o, g2, g3⟩ := mem_ready.1 hm
        have hi : i < listed.size := by rw [hsz]; exact (Array.getElem?_eq_some_iff.1 g2).1
        have := left_set hi g1
        omega
    | succ fuel =>
      simp only [Region.linearise.go] at hend ⊢
      change (Region.ready .any ops listed = [] → (match (Region.ready .any ops listed)[t % (Region.ready .any ops listed).length]? with
        | some i => Region.linearise.go .any ops fuel (t / (Region.ready .any ops listed).length) (listed.setIfInBounds i true) [i]
        | none => [].reverse) = [] → _) at hend
      change ∃ φ' a' w', Steps P (lone (b.atR a (.inRegion ops (match (Region.ready .any ops listed)[t % (Region.ready .any ops listed).length]? with
        | some i => Region.linearise.go .any ops fuel (t / (Region.ready .any ops listed).length) (listed.setIfInBounds i true) [i]
        | none => [].reverse) :: k)) cs w) (lone (b.atR a' k) cs w') ∧ _
      cases hi : (Region.ready .any ops listed)[t % (Region.ready .any ops listed).length]? with
      | none =>
        have hnil : Region.ready .any ops listed = [] := by
          cases hr : Region.ready .any ops listed with
          | nil => rfl
          | cons x xs =>
            rw [hr] at hi
            have hlt : t % (x :: xs).length < (x :: xs).length := Nat.mod_lt _ (by simp)
            simp at hi
            simp at hlt
            omega
        exact ⟨φ, a, w, .one stepR_region_end, rfl, done listed, all_done reg.fwd hsz hnil, inv⟩
      | some i =>
        simp only []
        rw [linearise_go_acc, List.reverse_singleton, List.singleton_append]
        have hm := List.mem_of_getElem? hi
        obtain ⟨g1, o, g2, g3⟩ := mem_ready.1 hm
        have hil : i < listed.size := by rw [hsz]; exact (Array.getElem?_eq_some_iff.1 g2).1
        have hnd : ¬ done listed i := by
          unfold done
          intro h
          simp [Array.getD_eq_getD_getElem?, h] at g1
        have hrd : ∀ e, e ∈ o.after → Region.binds .any e = true → done listed e.on := by
          intro e he hb
          have := g3 e he hb
          unfold done
          rw [Array.getD_eq_getD_getElem?] at this
          cases hx : listed[e.on]? with
          | none => rw [hx] at this; simp at this
          | some y => rw [hx] at this; simp at this; rw [this]
        have hE : (fun j => j = i ∨ done listed j) = done (listed.setIfInBounds i true) := by
          funext j
          unfold done
          by_cases e : j = i
          · subst e
            simp [hil]
          · simp [Array.getElem?_setIfInBounds_ne (Ne.symm e), e]
        obtain ⟨φ1, u, w1, q1, q2⟩ := inv.exec hD hrec hmg reg hw h0 h0' hbase hc g2 hrd hnd b k cs (Region.linearise.go .any ops fuel (t / (Region.ready .any ops listed).length) (listed.setIfInBounds i true) [])
        rw [hE] at q2
        have hc' : Closed ops (done (listed.setIfInBounds i true)) := by
          rw [← hE]
          intro j hj o' ho' e he hb
          rcases hj with rfl | hj
          · rw [g2] at ho'
            simp at ho'
            subst ho'
            exact .inr (hrd e he hb)
          · exact .inr (hc j hj o' ho' e he hb)
        obtain ⟨φ2, a2, w2, r1, r2, E, r3, r4⟩ := draw_go hD hrec hmg reg hw h0 h0' hbase b k cs fuel (t / (Region.ready .any ops listed).length) (listed.setIfInBounds i true) φ1 _ w1 (by simpa using hsz)
          (by have := left_set hil g1; omega) hc' q2
        exact ⟨φ2, a2, w2, q1.trans r1, by rw [r2, Act.defers_put], E, r3, r4⟩

theorem draw_ok (hD : TabOk P D) (hmix : P.follows .mixedOrders = true) (hrec : RecOk P rec) (hmg : MergeOk P mg) {cf : Cf} {outs : List Cf} (h : drawReg D rec mg ops cf = some outs) (hc : CfR φ cf a w) (b : Frame) (k : List Item) (cs : List Frame) (id : Nat) :
    ∃ cf', cf' ∈ outs ∧ ∃ φ' a' w', Stp φ cf.s w φ' cf'.s w' ∧ CfR φ' cf' a' w' ∧ Steps P (lone (b.atR a (.code (.region id ops true) :: k)) cs w) (lone (b.atR a' k) cs w') := by
  unfold drawReg at h
  split at h
  · rename_i hreg
    have reg := regOk_ok hreg
    simp only at h
    split at h
    · rename_i g hg
      simp only [Option.some.injEq] at h
      subst h
      obtain ⟨gs, e1, e2, e3⟩ := drawOps_trace _ _ _ _ hg
      have hlen : (ops.toList.zip (masks ops.toList)).length = ops.size := by
        have h1 : (masks ops.toList).length = ops.size := by
          have := (go_take ops.toList []).2
          simpa [masks] using this
        simp [h1]
      rw [hlen, Nat.zero_add] at e2
      have hw : Walk D rec mg ops cf.s.nx cf.n gs := by
        intro i o ho
        have := e3 i o _ (zip_get ho)
        rw [Nat.zero_add] at this
        exact drawOne_view this
      have hstart := stepR_region_draw (P := P) (b := b) (a := a) (k := k) (cs := cs) (w := w) (ops := ops) (id := id)
      have hs0 : (gs 0).s = { cf.s with nx := cf.s.nx + ops.size } := by rw [e1]
      have hnone : ∀ j, ¬ done (Array.replicate ops.size false) j := by
        intro j hj
        unfold done at hj
        rw [Array.getElem?_replicate] at hj
        split at hj <;> simp at hj
      have hrel : Rel φ { cf.s with nx := cf.s.nx + ops.size } { w with drawn := w.drawn + 1 } :=
        have h := hc.s
        ⟨h.obj, h.inj, fun b hb => h.fresh b (by simp at hb; omega), h.freshc, h.glob, Nat.le_trans h.gnx (by simp), h.facts⟩
      have hstp : Stp φ cf.s w φ { cf.s with nx := cf.s.nx + ops.size } { w with drawn := w.drawn + 1 } :=
        ⟨Phi.le.rfl' φ, fun b r sh hb hr => .inr ⟨b, sh, hb, hr⟩, fun _ _ _ => rfl, Nat.le_refl _, rfl, rfl, rfl, by simp, Nat.le_refl _, fun _ _ => rfl⟩
      have hinv : Inv D ops gs cf.s.nx cf.n φ cf.s w (done (Array.replicate ops.size false)) φ a { w with drawn := w.drawn + 1 } := by
        refine ⟨fun t q hq h1 h2 x hx => ?_, hc.n, 0, Nat.zero_le _, fun j _ => ⟨fun h => by omega, fun h => absurd h (hnone j)⟩, ⟨by rw [hs0]; exact hrel, by rw [hs0]; exact hstp, by rw [hs0]; exact Nat.le_refl _, ?_, ?_, ?_⟩⟩
        · rw [walk_t_range hw (Nat.zero_le q) hq (fun k o _ hk ho hd => hnone k (h1 k o hk ho hd)), e1] at hx
          exact hc.t t x hx
        · rintro j ob ⟨h1, _⟩; exact absurd h1 (hnone j)
        · rintro j ob j' ob' r ⟨h1, _⟩; exact absurd h1 (hnone j)
        · intro j _ _; exact hc.s.fresh _ (by omega)
      obtain ⟨φ', a', w', r1, r2, E, r3, r4⟩ := draw_go hD hrec hmg reg hw (by rw [e1]) (by rw [e1]) (Nat.le_refl _) b k cs ops.size (w.tape w.drawn (.order b.fn id)) (Array.replicate ops.size false) φ a _ (by simp)
        (by unfold left; exact Nat.le_trans List.countP_le_length (by simp)) (fun i hi => absurd hi (hnone i)) hinv
      obtain ⟨p, hps, hp, hh⟩ := r4.heap
      have hs : (gs ops.size).s = (gs p).s := walk_s_range hw hps (Nat.le_refl _) fun k h1 h2 h3 => by
        have := (hp k h3).2 (r3 k h2)
        omega
      have hh' := hh.move (q := ops.size) hs (fun k hk => by
        have hk' : k < ops.size := by
          obtain ⟨o, ho, _⟩ := hk
          exact (Array.getElem?_eq_some_iff.1 ho).1
        exact ⟨fun _ => hk', fun _ => (hp k hk).2 (r3 k hk')⟩)
      obtain ⟨f1, f2, _⟩ := hh'.flush (h' := flushAll g.pend g.s.h) (by
        intro b o hb
        rcases flushAll_get hb with h | ⟨j, h1⟩
        · rw [e2]; exact .inl h
        · rw [← e2] at h1
          obtain ⟨q1, q2, q3, q4⟩ := walk_pend hw reg.fwd (by rw [e1]) ops.size (Nat.le_refl _) h1
          exact .inr ⟨j, q2, r3 j q1, q3, fun k hk hh => q4 k hk hh⟩)
      rw [e2] at f1 f2
      refine ⟨_, List.mem_singleton.2 rfl, φ', a', w', f2, ⟨fun t x hx => ?_, r4.size, by rw [r2]; exact hc.ds.mono f2.ext, f1⟩, ?_⟩
      · refine r4.tmps t ops.size (Nat.le_refl _) (fun j o hj _ _ => r3 j hj) (fun j o hj ho _ => ?_) x (by rw [e2]; exact hx)
        have := (Array.getElem?_eq_some_iff.1 ho).1
        omega
      · refine .head hstart ?_
        rw [Region.schedule, hmix]
        simp only [Bool.true_or, if_true, Region.linearise]
        exact r1
    · simp at h
  · simp at h

end Go.Eng
