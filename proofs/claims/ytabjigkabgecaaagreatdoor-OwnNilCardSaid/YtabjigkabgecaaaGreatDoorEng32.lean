/-
  The abstract interpreter, its soundness: code, by induction.
-/
import Derived.Test.YtabjigkabgecaaaGreatDoorEng31
namespace Go.Eng
variable {P : Program} {D : Tab}

theorem bindL_one {α β : Type} {f : α → Option (List β)} {outs : List β} {x : α} (h : bindL [x] f = some outs) : f x = some outs := by
  simp only [bindL] at h
  split at h
  · simp at h
  · rename_i l hl
    simp at h
    rw [hl, h]

theorem run_ok_aux (hD : TabOk P D) (hmix : P.follows .mixedOrders = true) {mg : Merge} (hmg : MergeOk P mg) : ∀ f, RecOk P (run D mg f) ∧ LoopOk P (run D mg f)
  | 0 => ⟨fun rnd fn code cf outs h => by simp [run] at h, fun rnd fn code cf outs h => by simp [run] at h⟩
  | f + 1 => by
    obtain ⟨ih, ihl⟩ := run_ok_aux hD hmix hmg f
    -- a loop from where its body begins
    have hloop : ∀ rnd fn x cf outs, run D mg (f + 1) rnd fn (.loop x) cf = some outs → ∀ (φ : Phi) (a : Act) (w : World) (b : Frame) (k : List Item) (cs : List Frame), CfR φ cf a w → b.fn = fn → b.kind = .normal → RndR φ rnd b.roundOf →
        ∃ e cf', (e, cf') ∈ outs ∧ ∃ (φ' : Phi) (a' : Act) (w' : World), Stp φ cf.s w φ' cf'.s w' ∧ CfR φ' cf' a' w' ∧ ArrR P (lone (b.atR a (.code x :: .inLoop x :: k)) cs w) b k cs e a' w' := by
      intro rnd fn x cf outs h φ a w b k cs hc hb hk hr
      simp only [run] at h
      split at h
      · simp at h
      · rename_i cf1 h1
        obtain ⟨e1, c1, m1, φ1, a1, w1, q1, q2, q3⟩ := ih rnd fn x cf _ h1 φ a w b (.inLoop x :: k) cs hc hb hk hr
        simp at m1
        obtain ⟨rfl, rfl⟩ := m1
        obtain ⟨e2, c2, m2, φ2, a2, w2, r1, r2, r3⟩ := ihl rnd fn x _ _ h φ1 a1 w1 b k cs q2 hb hk (hr.mono q1.ext)
        exact ⟨e2, c2, m2, φ2, a2, w2, q1.trans r1, r2, r3.of_steps q3⟩
      · rename_i outs1 _ h1
        obtain ⟨e1, c1, m1, φ1, a1, w1, q1, q2, q3⟩ := ih rnd fn x cf _ h1 φ a w b (.inLoop x :: k) cs hc hb hk hr
        obtain ⟨r', g1, g2⟩ := bindL_mem h _ m1
        cases e1 with
        | normal =>
          simp only at g1
          obtain ⟨e2, c2, m2, φ2, a2, w2, r1, r2, r3⟩ := ihl rnd fn x _ _ g1 φ1 a1 w1 b k cs q2 hb hk (hr.mono q1.ext)
          exact ⟨e2, c2, g2 _ m2, φ2, a2, w2, q1.trans r1, r2, r3.of_steps q3⟩
        | exit id =>
          simp at g1
          subst g1
          exact ⟨_, c1, g2 _ (List.mem_singleton.2 rfl), φ1, a1, w1, q1, q2, q3.out (fun _ _ => by simp [exitTo]) (by simp)⟩
        | ret =>
          simp at g1
          subst g1
          exact ⟨_, c1, g2 _ (List.mem_singleton.2 rfl), φ1, a1, w1, q1, q2, q3.out (fun _ _ => by simp [exitTo]) (by simp)⟩
    refine ⟨?_, ?_⟩
    · intro rnd fn code cf outs h φ a w b k cs hc hb hk hr
      cases code with
      | skip =>
        simp [run] at h
        subst h
        exact ⟨.normal, cf, by simp, φ, a, w, Stp.refl _ _ _, hc, .one stepR_skip⟩
      | label l =>
        simp [run] at h
        subst h
        exact ⟨.normal, cf, by simp, φ, a, w, Stp.refl _ _ _, hc, .one stepR_label⟩
      | ret =>
        simp [run] at h
        subst h
        exact ⟨.ret, cf, by simp, φ, a, w, Stp.refl _ _ _, hc, k, .refl _ _⟩
      | exit id =>
        simp [run] at h
        subst h
        exact ⟨.exit id, cf, by simp, φ, a, w, Stp.refl _ _ _, hc, k, rfl, .refl _ _⟩
      | seq x y =>
        simp only [run] at h
        have hs := stepR_seq (P := P) (b := b) (a := a) (k := k) (cs := cs) (w := w) (x := x) (y := y)
        split at h
        · simp at h
        · rename_i cf1 h1
          obtain ⟨e1, c1, m1, φ1, a1, w1, q1, q2, q3⟩ := ih rnd fn x cf _ h1 φ a w b (.code y :: k) cs hc hb hk hr
          simp at m1
          obtain ⟨rfl, rfl⟩ := m1
          obtain ⟨e2, c2, m2, φ2, a2, w2, r1, r2, r3⟩ := ih rnd fn y _ _ h φ1 a1 w1 b k cs q2 hb hk (hr.mono q1.ext)
          exact ⟨e2, c2, m2, φ2, a2, w2, q1.trans r1, r2, (r3.of_steps q3).of_steps (.one hs)⟩
        · rename_i outs1 _ h1
          obtain ⟨e1, c1, m1, φ1, a1, w1, q1, q2, q3⟩ := ih rnd fn x cf _ h1 φ a w b (.code y :: k) cs hc hb hk hr
          obtain ⟨r', g1, g2⟩ := bindL_mem h _ m1
          cases e1 with
          | normal =>
            simp only at g1
            obtain ⟨e2, c2, m2, φ2, a2, w2, r1, r2, r3⟩ := ih rnd fn y _ _ g1 φ1 a1 w1 b k cs q2 hb hk (hr.mono q1.ext)
            exact ⟨e2, c2, g2 _ m2, φ2, a2, w2, q1.trans r1, r2, (r3.of_steps q3).of_steps (.one hs)⟩
          | exit id =>
            simp at g1
            subst g1
            exact ⟨_, c1, g2 _ (List.mem_singleton.2 rfl), φ1, a1, w1, q1, q2, (q3.out (fun _ _ => by simp [exitTo]) (by simp)).of_steps (.one hs)⟩
          | ret =>
            simp at g1
            subst g1
            exact ⟨_, c1, g2 _ (List.mem_singleton.2 rfl), φ1, a1, w1, q1, q2, (q3.out (fun _ _ => by simp [exitTo]) (by simp)).of_steps (.one hs)⟩
      | cond c x y =>
        simp only [run] at h
        split at h
        · rename_i hev
          have hv := ev_ok hc.s (EvR.of_act hc.t) hev
          generalize hcv : a.eval c = cv at hv
          cases hv
          obtain ⟨e, c', m, φ', a', w', q1, q2, q3⟩ := ih rnd fn x cf _ h φ a w b k cs hc hb hk hr
          have hs := stepR_cond (P := P) (b := b) (a := a) (k := k) (cs := cs) (w := w) (x := x) (y := y) hcv
          exact ⟨e, c', m, φ', a', w', q1, q2, q3.of_steps (.one hs)⟩
        · rename_i hev
          have hv := ev_ok hc.s (EvR.of_act hc.t) hev
          generalize hcv : a.eval c = cv at hv
          cases hv
          obtain ⟨e, c', m, φ', a', w', q1, q2, q3⟩ := ih rnd fn y cf _ h φ a w b k cs hc hb hk hr
          have hs := stepR_cond (P := P) (b := b) (a := a) (k := k) (cs := cs) (w := w) (x := x) (y := y) hcv
          exact ⟨e, c', m, φ', a', w', q1, q2, q3.of_steps (.one hs)⟩
        · simp at h
      | block id x =>
        simp only [run] at h
        split at h
        · simp at h
        · rename_i outs1 h1
          simp at h
          subst h
          have hs := stepR_block (P := P) (b := b) (a := a) (k := k) (cs := cs) (w := w) (id := id) (c := x)
          obtain ⟨e1, c1, m1, φ1, a1, w1, q1, q2, q3⟩ := ih rnd fn x cf _ h1 φ a w b (.inBlock id :: k) cs hc hb hk hr
          cases e1 with
          | normal => exact ⟨.normal, c1, List.mem_map.2 ⟨_, m1, rfl⟩, φ1, a1, w1, q1, q2, (q3.out (by simp) (fun _ => .one stepR_inBlock)).of_steps (.one hs)⟩
          | ret => exact ⟨.ret, c1, List.mem_map.2 ⟨_, m1, rfl⟩, φ1, a1, w1, q1, q2, (q3.out (by simp) (by simp)).of_steps (.one hs)⟩
          | exit i =>
            obtain ⟨k1, g1, g2⟩ := q3
            cases he : Nat.beq i id with
            | true =>
              have := beq_true he
              subst this
              refine ⟨.normal, c1, List.mem_map.2 ⟨_, m1, by simp⟩, φ1, a1, w1, q1, q2, ?_⟩
              have hx : exitTo i k1 = some k := by rw [g1]; simp [exitTo]
              exact Steps.head hs (g2.trans (.one (stepR_exit hx)))
            | false =>
              have hne : ¬ i = id := by
                rintro rfl
                rw [Nat.beq_refl] at he
                simp at he
              refine ⟨.exit i, c1, List.mem_map.2 ⟨_, m1, by simp [hne]⟩, φ1, a1, w1, q1, q2, k1, ?_, .head hs g2⟩
              rw [g1]
              simp [exitTo, Ne.symm hne]
      | scope x =>
        simp only [run] at h
        obtain ⟨e, c', m, φ', a', w', q1, q2, q3⟩ := ih rnd fn x cf _ h φ a w b (.inScope x :: k) cs hc hb hk hr
        exact ⟨e, c', m, φ', a', w', q1, q2, (q3.out (fun _ _ => by simp [exitTo]) (fun _ => .one stepR_inScope)).of_steps (.one stepR_scope)⟩
      | loop x =>
        obtain ⟨e, c', m, φ', a', w', q1, q2, q3⟩ := hloop rnd fn x cf outs h φ a w b k cs hc hb hk hr
        exact ⟨e, c', m, φ', a', w', q1, q2, q3.of_steps (.one stepR_loop)⟩
      | region id ops draw =>
        simp only [run] at h
        split at h
        · rename_i l hl
          simp at h
          subst h
          obtain ⟨cf', m, φ', a', w', q1, q2, q3⟩ := forks_ok (X := fun a w a' w' => ArrR P (lone (b.atR a (.code (.region id ops draw) :: k)) cs w) b k cs .normal a' w') (fun cf l φ a w hl hc => by
            cases draw with
            | true =>
              simp only [if_true] at hl
              exact draw_ok hD hmix ih hmg hl hc b k cs id
            | false =>
              simp only [Bool.false_eq_true, if_false] at hl
              obtain ⟨cf', m, φ', a', w', q1, q2, q3⟩ := seqOps_ok hD ih hmg b k cs ops.toList 0 cf l φ a w (by simp) hl hc
              refine ⟨cf', m, φ', a', w', q1, q2, ?_⟩
              have e : List.range ops.size = List.range' 0 ops.toList.length := by rw [List.range_eq_range']; simp
              refine Steps.head stepR_region ?_
              rw [e]
              exact q3) _ _ _ φ a w hl hc
          exact ⟨.normal, cf', normals_mem m, φ', a', w', q1, q2, q3⟩
        · simp at h
      | rangeFunc g ps assign body => exact rangeFunc_ok hD hmg ih h φ a w b k cs hc hb hk hr
      | _ => all_goals simp [run] at h
    · intro rnd fn x cf outs h φ a w b k cs hc hb hk hr
      obtain ⟨e, c', m, φ', a', w', q1, q2, q3⟩ := hloop rnd fn x cf outs h φ a w b k cs hc hb hk hr
      exact ⟨e, c', m, φ', a', w', q1, q2, q3.of_steps (.one stepR_inLoop)⟩

theorem run_ok (hD : TabOk P D) (hmix : P.follows .mixedOrders = true) {mg : Merge} (hmg : MergeOk P mg) (f : Nat) : RecOk P (run D mg f) := (run_ok_aux hD hmix hmg f).1

end Go.Eng
