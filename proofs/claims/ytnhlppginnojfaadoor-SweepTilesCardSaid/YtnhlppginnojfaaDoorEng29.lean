/-
  The abstract interpreter, its soundness: one operation of a region that draws.
-/
import Derived.Test.YtnhlppginnojfaaDoorEng22to28
set_option linter.unusedVariables false
set_option linter.unusedSimpArgs false
namespace Go.Eng
variable {P : Program} {D : Tab} {ops : Array Oper} {rec : Rec} {mg : Merge} {base n : Nat} {gs : Nat → Rg}
structure Inv (D : Tab) (ops : Array Oper) (gs : Nat → Rg) (base n : Nat) (φ0 : Phi) (s0 : St) (w0 : World) (E : Nat → Prop) (φ : Phi) (a : Act) (w : World) : Prop where
 tmps : ∀ t q, q ≤ ops.size → (∀ j o, j < q → ops[j]? = some o → o.dst = some t → E j) → (∀ j o, q ≤ j → ops[j]? = some o → o.dst = some t → ¬ E j) → ∀ x, (gs q).t.get t = some x → ∃ u, a.tmps[t]? = some u ∧ VR φ x u
 size : a.tmps.size = n
 heap : ∃ p, p ≤ ops.size ∧ (∀ j, hv D ops gs j → (j < p ↔ E j)) ∧ HeapInv D ops gs base φ0 s0 w0 E p φ w
variable {φ0 φ : Phi} {s0 : St} {w0 w : World} {E : Nat → Prop} {a : Act}
theorem Inv.at (reg : RegR ops) (hc : Closed ops E) {i : Nat} {o : Oper} (ho : ops[i]? = some o) (hready : ∀ e, e ∈ o.after → Region.binds .any e = true → E e.on) (hi : ¬ E i)
  (inv : Inv D ops gs base n φ0 s0 w0 E φ a w) {t : Nat} (ht : t ∈ looksOf ops o) {x : AV} (hx : (gs i).t.get t = some x) : ∃ u, a.tmps[t]? = some u ∧ VR φ x u := by
 have hsz := (Array.getElem?_eq_some_iff.1 ho).1
 refine inv.tmps t i (by omega) (fun j o' hj ho' hd => ?_) (fun j o' hj ho' hd hE => ?_) x hx
 ·exact hc.ready reg.fwd ho hready ((reg.look i j o o' t ho ho' hd ht).2 hj)
 ·rcases Nat.eq_or_lt_of_le hj with rfl | hj
  ·exact hi hE
  ·exact hi (hc.anc reg.fwd j i o' ho' hE ((reg.look i j o o' t ho ho' hd ht).1 hj))
theorem Inv.tmps_step (reg : RegR ops) (hw : Walk D rec mg ops base n gs) (hc : Closed ops E) {i : Nat} {o : Oper} (ho : ops[i]? = some o) (hready : ∀ e, e ∈ o.after → Region.binds .any e = true → E e.on) (hi : ¬ E i)
  (inv : Inv D ops gs base n φ0 s0 w0 E φ a w) {φ' : Phi} (hle : φ.le φ') {v : AV} {u : Value} (hv : VR φ' v u) (ht : (gs (i + 1)).t = putA (gs i).t n o.dst v) :
  ∀ t q, q ≤ ops.size → (∀ j o, j < q → ops[j]? = some o → o.dst = some t → j = i ∨ E j) → (∀ j o, q ≤ j → ops[j]? = some o → o.dst = some t → ¬ (j = i ∨ E j)) → ∀ x, (gs q).t.get t = some x → ∃ y, (a.put o.dst u).tmps[t]? = some y ∧ VR φ' x y := by
 intro t q hq h1 h2 x hx
 have hsz := (Array.getElem?_eq_some_iff.1 ho).1
 by_cases hd : o.dst = some t
 ·have hqi : i < q := by
   rcases Nat.lt_or_ge i q with h | h
   ·exact h
   ·exact absurd (.inl rfl) (h2 i o h ho hd)
  have hno : ∀ k o', i + 1 ≤ k → k < q → ops[k]? = some o' → o'.dst ≠ some t := by
   intro k o' hk hkq ho' hd'
   rcases h1 k o' hkq ho' hd' with h | h
   ·omega
   ·exact hi (hc.anc reg.fwd k i o' ho' h (reg.write i k o o' t (by omega) ho ho' hd hd'))
  rw [walk_t_range hw (show i + 1 ≤ q by omega) hq hno, ht, hd] at hx
  rw [hd]
  unfold putA at hx
  simp only at hx
  split at hx
  ·rename_i hlt
   have hlt := blt_true hlt
   simp at hx
   subst hx
   exact ⟨u, by simp [Act.put, inv.size, hlt], hv⟩
  ·rename_i hlt
   have hex := inv.tmps t i (by omega) (fun j o' hj ho' hd' => hc.ready reg.fwd ho hready (reg.write j i o' o t hj ho' ho hd' hd)) (fun j o' hj ho' hd' hE => by
    rcases Nat.eq_or_lt_of_le hj with rfl | hj
    ·exact hi hE
    ·exact hi (hc.anc reg.fwd j i o' ho' hE (reg.write i j o o' t hj ho ho' hd hd'))) x hx
   obtain ⟨y, g1, g2⟩ := hex
   have := (Array.getElem?_eq_some_iff.1 g1).1
   rw [inv.size] at this
   have hb : Nat.blt t n = true := by simpa [Nat.blt, Nat.ble_eq] using (show t + 1 ≤ n from this)
   rw [hb] at hlt
   simp at hlt
 ·obtain ⟨y, g1, g2⟩ := inv.tmps t q hq (fun j o' hj ho' hd' => (h1 j o' hj ho' hd').resolve_left (by rintro rfl; rw [ho] at ho'; simp at ho'; subst ho'; exact hd hd')) (fun j o' hj ho' hd' hE => h2 j o' hj ho' hd' (.inr hE)) x hx
  refine ⟨y, ?_, g2.mono hle⟩
  cases hdd : o.dst with
  | none => exact g1
  | some d =>
   have : d ≠ t := by rintro rfl; exact hd hdd
   simp only [Act.put]
   rw [Array.getElem?_setIfInBounds_ne this]
   exact g1
theorem not_alloc {i : Nat} {o : Oper} (ho : ops[i]? = some o) (h : guardOk (cut (gs i).t (looksOf ops o)) ops o ≠ some true ∨ kindOf D o.op ≠ .alloc) (ob : AObj) : ¬ AllocAt D ops gs base i ob := by
 rintro ⟨o', v, s', h1, h2, h3, _⟩
 rw [ho] at h1
 simp at h1
 subst h1
 rcases h with h | h
 ·exact h h2
 ·exact h h3
theorem not_hv {i : Nat} {o : Oper} (ho : ops[i]? = some o) (h : guardOk (cut (gs i).t (looksOf ops o)) ops o ≠ some true ∨ kindOf D o.op ≠ .heavy) : ¬ hv D ops gs i := by
 rintro ⟨o', h1, h2, h3⟩
 rw [ho] at h1
 simp at h1
 subst h1
 rcases h with h | h
 ·exact h h2
 ·exact h h3
theorem front_step {i : Nat} {p : Nat} (hp : ∀ j, hv D ops gs j → (j < p ↔ E j)) (h : ¬ hv D ops gs i) : ∀ j, hv D ops gs j → (j < p ↔ j = i ∨ E j) := by
 intro j hj
 rw [hp j hj]
 constructor
 ·exact .inr
 ·rintro (rfl | h')
  ·exact absurd hj h
  ·exact h'
theorem Inv.read (reg : RegR ops) (hw : Walk D rec mg ops base n gs) (h0' : (gs 0).pend = []) (hc : Closed ops E) {i : Nat} {o : Oper} (ho : ops[i]? = some o) (hready : ∀ e, e ∈ o.after → Region.binds .any e = true → E e.on) (hi : ¬ E i)
  {p : Nat} (hps : p ≤ ops.size) (hp : ∀ j, hv D ops gs j → (j < p ↔ E j)) {T : PT AV} {v : AV} (hni : ¬ hv D ops gs i)
  (h : readAt D T { (gs i).s with h := flush ((masks ops.toList)[i]?.getD 0) (gs i).pend (gs i).s.h } o.op = some v) (hpast : pastOk D T o.op ((masks ops.toList)[i]?.getD 0) (gs i).pend v (gs i).past = true)
  (hmem : (i, o.op, T, v) ∈ (gs (i + 1)).reads) :
  ∃ PL, (∀ j b ob, (j, b, ob) ∈ PL → bitOf ((masks ops.toList)[i]?.getD 0) j = true → b = base + j ∧ Pend D ops gs base E p j ob) ∧ readAt D T { (gs p).s with h := flush ((masks ops.toList)[i]?.getD 0) PL (gs p).s.h } o.op = some v := by
 have hsz := (Array.getElem?_eq_some_iff.1 ho).1
 have hE : ∀ j, anc ops i j = true → E j := fun j hj => hc.ready reg.fwd ho hready hj
 by_cases hA : ∃ k, p ≤ k ∧ k < i ∧ hv D ops gs k
 ·obtain ⟨k0, a1, a2, a3⟩ := hA
  obtain ⟨u, g1, g2⟩ := past_read hw (p := p) i (by omega) (by omega) hpast (fun k h1 h2 h3 => by
   cases hb : bitOf ((masks ops.toList)[i]?.getD 0) k with
   | false => rfl
   | true =>
    have := (hp k h3).2 (hE k hb)
    omega) ⟨k0, a1, a2, a3⟩
  have := same_ok g2
  subst this
  refine ⟨(gs i).pend, fun j b ob hm hb => ?_, g1⟩
  obtain ⟨q1, q2, q3, q4⟩ := walk_pend hw reg.fwd h0' i (by omega) hm
  exact ⟨q2, hE j hb, q3, fun k hk hh => q4 k (by omega) hh⟩
 ·by_cases hB : ∃ k, i < k ∧ k < p ∧ hv D ops gs k
  ·have hip : i + 1 ≤ p := by obtain ⟨k, h1, h2, _⟩ := hB; omega
   obtain ⟨_, g2⟩ := next_read hw (i := i) p hip hps hmem (fun k h1 h2 h3 => by
    cases hb : anc ops k i with
    | false => rfl
    | true => exact absurd (hc.anc reg.fwd k i ops[k] (by simp [show k < ops.size by omega]) ((hp k h3).1 h2) hb) hi)
   obtain ⟨k, a1, a2, a3, a4, u, a5, a6⟩ := g2 hB
   have := same_ok a6
   subst this
   refine ⟨(gs (k + 1)).pend, fun j b ob hm hb => ?_, a5⟩
   obtain ⟨q1, q2, q3, q4⟩ := walk_pend hw reg.fwd h0' (k + 1) (by omega) hm
   refine ⟨q2, hE j hb, q3, fun k' hk' hh => q4 k' ?_ hh⟩
   rcases Nat.lt_or_ge k' (k + 1) with h | h
   ·exact h
   ·exact absurd hh (a4 k' (by omega) hk')
  ·have hs : (gs p).s = (gs i).s := by
    rcases Nat.le_total p i with h | h
    ·exact (walk_s_range hw h (by omega) fun k h1 h2 h3 => hA ⟨k, h1, h2, h3⟩).symm
    ·refine walk_s_range hw h hps fun k h1 h2 h3 => ?_
     rcases Nat.eq_or_lt_of_le h1 with rfl | h1
     ·exact hni h3
     ·exact hB ⟨k, h1, h2, h3⟩
   refine ⟨(gs i).pend, fun j b ob hm hb => ?_, by rw [hs]; exact h⟩
   obtain ⟨q1, q2, q3, q4⟩ := walk_pend hw reg.fwd h0' i (by omega) hm
   refine ⟨q2, hE j hb, q3, fun k hk hh => q4 k ?_ hh⟩
   rcases Nat.lt_trichotomy k i with h | h | h
   ·exact h
   ·rw [h] at hh; exact absurd hh hni
   ·exact absurd ⟨k, h, hk, hh⟩ hB
theorem oper_val {T : PT AV} {s s' : St} {op : Op} {v : AV} (h : opA D T s op = some (.val v s')) : oper D rec mg T s op = some [(v, s')] := by
 unfold oper
 rw [h]
theorem Inv.exec (hD : TabOk P D) (hrec : RecOk P rec) (hmg : MergeOk P mg) (reg : RegR ops) (hw : Walk D rec mg ops base n gs) (h0 : (gs 0).past = []) (h0' : (gs 0).pend = []) (hbase : s0.nx ≤ base ∧ GB ≤ base) (hc : Closed ops E) {i : Nat} {o : Oper} (ho : ops[i]? = some o)
  (hready : ∀ e, e ∈ o.after → Region.binds .any e = true → E e.on) (hi : ¬ E i) (inv : Inv D ops gs base n φ0 s0 w0 E φ a w) (b : Frame) (k : List Item) (cs : List Frame) (rest : List Nat) :
  ∃ φ' u w', Steps P (lone (b.atR a (.inRegion ops (i :: rest) :: k)) cs w) (lone (b.atR (a.put o.dst u) (.inRegion ops rest :: k)) cs w') ∧ Inv D ops gs base n φ0 s0 w0 (fun j => j = i ∨ E j) φ' (a.put o.dst u) w' := by
 have hsz := (Array.getElem?_eq_some_iff.1 ho).1
 have hT : TR φ (cut (gs i).t (looksOf ops o)) a.tmps := fun t x hx => by
  obtain ⟨h1, h2⟩ := cut_get hx
  exact inv.at reg hc ho hready hi h1 h2
 have hEa : ∀ j, anc ops i j = true → E j := fun j hj => hc.ready reg.fwd ho hready hj
 obtain ⟨p, hps, hp, hh⟩ := inv.heap
 have hone := hw i o ho
 generalize hgg : gs (i + 1) = g' at hone
 have hsize : ∀ u, (a.put o.dst u).tmps.size = n := fun u => by rw [Act.size_put]; exact inv.size
 cases hone with
 | skip hg =>
  have hwant := guardOk_ok hT hg
  have hs := stepR_op_skip (P := P) (b := b) (a := a) (k := k) (cs := cs) (w := w) (ops := ops) (i := i) (rest := rest) (by simp [ho, hwant])
  simp only [ho, Option.bind_some] at hs
  have hnh := not_hv (D := D) (gs := gs) ho (.inl (by rw [hg]; simp))
  exact ⟨φ, undef, w, .one hs, inv.tmps_step reg hw hc ho hready hi (Phi.le.rfl' φ) VR.undef (by rw [hgg]), hsize _,
   p, hps, front_step hp hnh, hh.grow (fun _ => Iff.rfl) (not_alloc ho (.inl (by rw [hg]; simp)))⟩
 | pure v s' hg hk hop =>
  have hwant := guardOk_ok hT hg
  have hop' := pure_any hk hop (gs p).s
  obtain ⟨v', s'', m, φ', u, w', q1, q2, q3, q4⟩ := oper_ok hD hrec hmg (oper_val (rec := rec) (mg := mg) hop') b k cs (rest := rest) ho hwant hT hh.rel
  simp at m
  obtain ⟨rfl, rfl⟩ := m
  have hnh := not_hv (D := D) (gs := gs) ho (.inr (by rw [hk]; simp))
  exact ⟨φ', u, w', q4, inv.tmps_step reg hw hc ho hready hi q1.ext q3 (by rw [hgg]), hsize _,
   p, hps, front_step hp hnh, (hh.quiet (h' := (gs p).s.h) (fun b o h => .inl h) (fun b o h => h) q1 q2).grow (fun _ => Iff.rfl) (not_alloc ho (.inr (by rw [hk]; simp)))⟩
 | read v hg hk hop hpast =>
  have hwant := guardOk_ok hT hg
  have hnh := not_hv (D := D) (gs := gs) ho (.inr (by rw [hk]; simp))
  obtain ⟨PL, hPL, hr⟩ := Inv.read reg hw h0' hc ho hready hi hps hp hnh hop hpast (by rw [hgg]; exact List.mem_cons_self ..)
  obtain ⟨s', hr⟩ := readAt_ok hr
  have := read_same hk hr
  subst this
  have H : ∀ b o, (flush ((masks ops.toList)[i]?.getD 0) PL (gs p).s.h).get b = some o → (gs p).s.h.get b = some o ∨ ∃ j, b = base + j ∧ Pend D ops gs base E p j o := by
   intro b o hb
   rcases flush_get hb with h | ⟨j, h1, h2⟩
   ·exact .inl h
   ·exact .inr ⟨j, hPL j b o h1 h2⟩
  have Hold : ∀ b o, (gs p).s.h.get b = some o → (flush ((masks ops.toList)[i]?.getD 0) PL (gs p).s.h).get b = some o := by
   intro b o hb
   rw [flush_old]
   ·exact hb
   ·intro j ob hm
    cases hbit : bitOf ((masks ops.toList)[i]?.getD 0) j with
    | false => rfl
    | true =>
     obtain ⟨rfl, hj⟩ := hPL j b ob hm hbit
     obtain ⟨r, ro, g1, g2, g3, g4, g5⟩ := hh.pend j ob hj
     exact absurd g1 (g5 _ 0 (by simp [hb]))
  obtain ⟨f1, f2, f3⟩ := hh.flush H
  obtain ⟨v', s'', m, φ', u, w', q1, q2, q3, q4⟩ := oper_ok hD hrec hmg (oper_val (rec := rec) (mg := mg) hr) b k cs (rest := rest) ho hwant hT f1
  simp at m
  obtain ⟨rfl, rfl⟩ := m
  exact ⟨φ', u, w', q4, inv.tmps_step reg hw hc ho hready hi q1.ext q3 (by rw [hgg]), hsize _,
   p, hps, front_step hp hnh, (hh.quiet H Hold q1 q2).grow (fun _ => Iff.rfl) (not_alloc ho (.inr (by rw [hk]; simp)))⟩
 | alloc v s' ob hg hk hop hob =>
  have hwant := guardOk_ok hT hg
  have hnh := not_hv (D := D) (gs := gs) ho (.inr (by rw [hk]; simp))
  obtain ⟨ob', ro, u, e1, e2, e3, e4⟩ := alloc_raw hD hk hop hh.rel (EvR.of_act hT)
  have : ob' = ob := by
   rw [e1] at hob
   simpa using hob
  subst this
  obtain ⟨m1, m2⟩ := hh.made hsz hi ⟨o, v, s', ho, hg, hk, hop, hob⟩ e2 hbase (E' := fun j => j = i ∨ E j) (fun _ => Iff.rfl)
  have hvr := e3 (φ.setB (base + i) (w.heap.size, 0)) (by simp [Phi.setB])
  refine ⟨_, u, { w with heap := w.heap.push ro }, .one (step_lone_go ?_), inv.tmps_step reg hw hc ho hready hi m2 hvr (by rw [hgg]), hsize _,
   p, hps, front_step hp hnh, m1⟩
  have hst := stepGR_op (P := P) (b := b) (k := k) (cs := cs) (w := w) (rest := rest) ho hwant
  have hfin : ∀ v, (b.atR a (.inRegion ops (i :: rest) :: k)).finish v = b.atR (a.put o.dst v) (.inRegion ops rest :: k) := by
   intro v; rw [Frame.finish_atR, ho]; rfl
  rw [Oper.semAt_eq _ _ _ (opA_nodefer hop)] at hst
  rw [hst, ← hfin]
  simp [stepG.apply, e4]
 | heavy v s' reads hg hk hpast hop hreads =>
  have hwant := guardOk_ok hT hg
  have hhv : hv D ops gs i := ⟨o, ho, hg, hk⟩
  have hchain := walk_chain hw h0 (E := E) (fun i' j hh' hE hb => hc.anc reg.fwd i' j ops[i']! (by
   obtain ⟨o', ho', _⟩ := hh'
   have := (Array.getElem?_eq_some_iff.1 ho').1
   simp [this]) hE hb)
  have hbelow : ∀ j, j < i → hv D ops gs j → E j := fun j hj hh' => hchain i hhv hEa j hj hh'
  have habove : ∀ j, i < j → hv D ops gs j → ¬ E j := by
   intro j hj hh' hE
   refine hi (hchain j hh' (fun j' hb => ?_) i hj hhv)
   obtain ⟨o', ho', _⟩ := hh'
   exact hc.anc reg.fwd j j' o' ho' hE hb
  have hfront : ∀ j, hv D ops gs j → (j < p ↔ j < i) := by
   intro j hj
   rw [hp j hj]
   constructor
   ·intro hE
    rcases Nat.lt_trichotomy j i with h | h | h
    ·exact h
    ·rw [h] at hE; exact absurd hE hi
    ·exact absurd hE (habove j h hj)
   ·intro h; exact hbelow j h hj
  have hs : (gs i).s = (gs p).s := by
   rcases Nat.le_total p i with h | h
   ·exact walk_s_range hw h (by omega) fun k h1 h2 h3 => by have := (hfront k h3).2 h2; omega
   ·exact (walk_s_range hw h hps fun k h1 h2 h3 => by have := (hfront k h3).1 h2; omega).symm
  have hh' := hh.move hs hfront
  have hPL : ∀ j b ob, (j, b, ob) ∈ (gs i).pend → bitOf ((masks ops.toList)[i]?.getD 0) j = true → b = base + j ∧ Pend D ops gs base E i j ob := by
   intro j b ob hm hb
   obtain ⟨q1, q2, q3, q4⟩ := walk_pend hw reg.fwd h0' i (by omega) hm
   exact ⟨q2, hEa j hb, q3, q4⟩
  have H : ∀ b o, (flush ((masks ops.toList)[i]?.getD 0) (gs i).pend (gs i).s.h).get b = some o → (gs i).s.h.get b = some o ∨ ∃ j, b = base + j ∧ Pend D ops gs base E i j o := by
   intro b o hb
   rcases flush_get hb with h | ⟨j, h1, h2⟩
   ·exact .inl h
   ·exact .inr ⟨j, hPL j b o h1 h2⟩
  obtain ⟨f1, f2, f3⟩ := hh'.flush H
  obtain ⟨v', s'', m, φ', u, w', q1, q2, q3, q4⟩ := oper_ok hD hrec hmg hop b k cs (rest := rest) ho hwant hT f1
  simp at m
  obtain ⟨rfl, rfl⟩ := m
  have hgs : (gs (i + 1)).s = s'' := by rw [hgg]
  refine ⟨φ', u, w', q4, inv.tmps_step reg hw hc ho hready hi q1.ext q3 (by rw [hgg]), hsize _, i + 1, by omega, ?_, ?_⟩
  ·intro j hj
   constructor
   ·intro h
    rcases Nat.eq_or_lt_of_le (Nat.le_of_lt_succ h) with h | h
    ·exact .inl h
    ·exact .inr (hbelow j h hj)
   ·rintro (h | h)
    ·omega
    ·rcases Nat.lt_or_ge j (i + 1) with h' | h'
     ·exact h'
     ·exact absurd h (habove j h' hj)
  ·refine hh'.change H (by rw [hgs]; exact q1) (by rw [hgs]; exact q2) (E' := fun j => j = i ∨ E j) (fun j h => .inr h) ?_
   rintro j ob ⟨h1, h2, h3⟩
   have hji : j ≠ i := by
    rintro rfl
    exact not_alloc ho (.inr (by rw [hk]; simp)) ob h2
   have hjE : E j := h1.resolve_left hji
   have hpd : Pend D ops gs base E i j ob := ⟨hjE, h2, fun k hk hh' => h3 k (by omega) hh'⟩
   refine ⟨hpd, ?_⟩
   obtain ⟨r, ro, g1, g2, g3, g4, g5⟩ := hh'.pend j ob hpd
   rw [flush_old]
   ·cases hx : (gs i).s.h.get (base + j) with
    | none => rfl
    | some x => exact absurd g1 (g5 _ 0 (by simp [hx]))
   ·intro j' ob' hm
    cases hbit : bitOf ((masks ops.toList)[i]?.getD 0) j' with
    | false => rfl
    | true =>
     obtain ⟨e, _⟩ := hPL j' _ ob' hm hbit
     have : j' = j := by omega
     subst this
     have := h3 i (by omega) hhv
     unfold anc at this
     rw [hbit] at this
     simp at this
end Go.Eng

