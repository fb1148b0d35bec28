/-
  The abstract interpreter, its soundness: maps.
-/
import Derived.Test.YtabjigkabgecaaaGreatDoorEng8
namespace Go.Eng
variable {P : Program} {D : Tab} {φ : Phi} {s : St} {w : World} {T : PT AV} {ρ : Operand → Value}

/-! ### Keys -/
theorem geq1_eq {a b : AV} (h : geq1 a b = true) : a = b ∧ ∀ x y : Value, VR φ a x → VR φ b y → x = y ∧ Instr.sameBits 9999 y x = true ∧ Instr.sameBits 10000 y x = true := by
  unfold geq1 at h
  split at h
  · simp at h; subst h; exact ⟨rfl, fun x y hx hy => by cases hx; cases hy; simp [Instr.sameBits]⟩
  · simp at h; obtain ⟨rfl, rfl⟩ := h; exact ⟨rfl, fun x y hx hy => by cases hx; cases hy; simp [Instr.sameBits]⟩
  · rename_i a b
    have := bytesEq_iff.1 h
    have e : a = b := by
      obtain ⟨⟨x⟩⟩ := a
      obtain ⟨⟨y⟩⟩ := b
      simp at this
      rw [this]
    subst e
    exact ⟨rfl, fun x y hx hy => by cases hx; cases hy; simp [Instr.sameBits, beq_toListBytes]⟩
  · exact ⟨rfl, fun x y hx hy => by cases hx; cases hy; simp [Instr.sameBits]⟩
  · rename_i a o b u
    simp only [Bool.and_eq_true] at h
    have e1 := beq_true h.1
    have e2 := beq_true h.2
    subst e1; subst e2
    refine ⟨rfl, fun x y hx hy => ?_⟩
    cases hx with
    | ptr h1 =>
      cases hy with
      | ptr h2 =>
        rw [h1] at h2
        simp at h2
        obtain ⟨rfl, rfl⟩ := h2
        simp [Instr.sameBits]
  · simp at h

theorem geqs_eq : ∀ {a b : List AV}, geqs a b = true → a = b ∧ ∀ x y : List Value, VRs φ a x → VRs φ b y → x = y ∧ (y.zip x).all (fun (u, v) => Instr.sameBits 9999 u v) = true
  | [], [], _ => ⟨rfl, fun x y hx hy => by cases hx; cases hy; simp⟩
  | a :: x, b :: y, h => by
    simp only [geqs, Bool.and_eq_true] at h
    obtain ⟨rfl, h1⟩ := geq1_eq (φ := φ) h.1
    obtain ⟨rfl, h2⟩ := geqs_eq h.2
    refine ⟨rfl, fun u v hu hv => ?_⟩
    cases hu with
    | cons hu hus =>
      cases hv with
      | cons hv hvs =>
        obtain ⟨e1, e2, _⟩ := h1 _ _ hu hv
        obtain ⟨e3, e4⟩ := h2 _ _ hus hvs
        subst e1; subst e3
        exact ⟨rfl, by simpa [e2] using e4⟩
  | [], _ :: _, h => by simp [geqs] at h
  | _ :: _, [], h => by simp [geqs] at h

theorem geq_eq {a b : AV} (h : geq a b = true) : a = b ∧ ∀ x y : Value, VR φ a x → VR φ b y → x = y ∧ Instr.sameBits 10000 y x = true := by
  unfold geq at h
  split at h
  · obtain ⟨rfl, h1⟩ := geqs_eq (φ := φ) h
    refine ⟨rfl, fun x y hx hy => ?_⟩
    cases hx with
    | agg hx =>
      cases hy with
      | agg hy =>
        obtain ⟨e1, e2⟩ := h1 _ _ hx hy
        subst e1
        refine ⟨rfl, ?_⟩
        simp only [Instr.sameBits]
        simpa using e2
  · obtain ⟨e, h1⟩ := geq1_eq (φ := φ) h
    exact ⟨e, fun x y hx hy => ⟨(h1 x y hx hy).1, (h1 x y hx hy).2.2⟩⟩

theorem run_keyThatStays {old new : Value} (h : Instr.sameBits 10000 old new = true) : (Instr.keyThatStays old new).run P w = .ok new w := by
  simp [Instr.keyThatStays, h]

section
variable (hD : TabOk P D)
include hD

theorem scalarTy_ok {t : TypeId} (h : scalarTy D t = true) (w : World) : ∃ d, (underlying t).run P w = .ok d w ∧ ((∃ k, d = .int k) ∨ d = .string ∨ d = .bool) := by
  unfold scalarTy at h
  split at h
  · rename_i i hi
    obtain ⟨d, h1, h2, h3⟩ := run_under hD hi w
    refine ⟨d, h3, ?_⟩
    rw [h2] at h
    cases d <;> simp [tdOf] at h
    · exact .inr (.inr rfl)
    · exact .inl ⟨_, rfl⟩
    · exact .inr (.inl rfl)
  · simp at h

theorem checkKey_scalar {t : TypeId} (h : scalarTy D t = true) (em : Bool) (n : Nat) (v : Value) (w : World) : (Instr.checkKey em (n + 1) t v).run P w = .ok () w := by
  obtain ⟨d, h1, h2⟩ := scalarTy_ok hD h w
  rcases h2 with ⟨k, rfl⟩ | rfl | rfl <;> simp [Instr.checkKey, h1]

theorem checkKey_fields {k : AV} {us : List Value} (hk : VR φ k (.agg us.toArray)) (em : Bool) (n : Nat) (w : World) {go : TypeId → AV → Bool}
    (hgo : ∀ t a v, VR φ a v → go t a = true → (Instr.checkKey em n t v).run P w = .ok () w) : ∀ (fs : List Field), keyFields D go k (fs.map fun f => (f.type, f.offset, f.name != "_")) = true →
    (forIn fs PUnit.unit fun (f : Field) (_ : PUnit) => (if f.name ≠ "_" then do
        Instr.checkKey em n f.type (← part f.type us.toArray f.offset)
        pure (ForInStep.yield PUnit.unit)
      else pure (ForInStep.yield PUnit.unit) : Sem (ForInStep PUnit))).run P w = .ok PUnit.unit w
  | [], _ => by simp
  | f :: fs, h => by
    simp only [keyFields, List.map_cons, Bool.and_eq_true] at h
    have ih := checkKey_fields hk em n w hgo fs h.2
    simp only [List.forIn_cons, Sem.run_bind]
    by_cases hn : f.name = "_"
    · rw [if_neg (by simpa using hn)]
      simp only [Sem.run_pure, Result.andThen_ok]
      exact ih
    · have hb : (f.name != "_") = true := by simpa using hn
      simp only [hb] at h
      obtain ⟨h2, _⟩ := h
      split at h2
      · rename_i i hi
        split at h2
        · rename_i a ha
          obtain ⟨u, hu', hu⟩ := field_ok hD hi hk ha w
          have hc := hgo f.type a u hu' h2
          rw [if_pos hn]
          simp only [Sem.run_bind, hu, hc, Sem.run_pure, Result.andThen_ok]
          exact ih
        · simp at h2
      · simp at h2

theorem keyN_at (em : Bool) (w : World) : ∀ (n : Nat) {kt : TypeId} {k : AV} {kv : Value} (m : Nat), VR φ k kv → keyN D n kt k = true → (Instr.checkKey em (n + m) kt kv).run P w = .ok () w
  | 0, kt, k, kv, m, hk, h => by simp [keyN] at h
  | n + 1, kt, k, kv, m, hk, h => by
    have ih := fun (t : TypeId) (a : AV) (v : Value) (hv : VR φ a v) (ha : keyN D n t a = true) => keyN_at em w n m hv ha
    rw [show n + 1 + m = (n + m) + 1 by omega]
    unfold keyN at h
    split at h
    · rename_i i hi
      obtain ⟨d, h1, h2, h3⟩ := run_under hD hi w
      rw [h2] at h
      cases d <;> simp only [tdOf] at h
      case bool => simp [Instr.checkKey, h3]
      case int => simp [Instr.checkKey, h3]
      case string => simp [Instr.checkKey, h3]
      case pointer => simp [Instr.checkKey, h3]
      case struct fs =>
        split at h <;> first | contradiction | skip
        · rename_i fs' cs hfs
          simp at hfs
          subst hfs
          cases hk with
          | agg hx =>
            have := checkKey_fields hD (.agg hx) em (n + m) w ih fs.toList h
            rw [Instr.checkKey.eq_def]
            simp only [Sem.run_bind, h3, Result.andThen_ok]
            rw [← Array.forIn_toList]
            have e : ∀ r : Result PUnit, (r.andThen fun _ w' => (Result.ok () w' : Result Unit)) = r := fun r => by cases r <;> rfl
            first | exact this | (simp only [Sem.run_pure]; rw [e]; exact this)
      all_goals (first | (simp at h; done) | (split at h <;> first | contradiction | (simp at h; done)))
    · simp at h

theorem keyOk_ok {kt : TypeId} {k : AV} {kv : Value} (hk : VR φ k kv) (h : keyOk D kt k = true) (em : Bool) (w : World) : (Instr.checkKey em 10000 kt kv).run P w = .ok () w :=
  keyN_at hD em w 4 9996 hk h

/-! ### Where a key stands -/
def FR (φ : Phi) : Option (Nat × AV) → Option (Nat × Value) → Prop
  | none, none => True
  | some (i, a), some (j, v) => i = j ∧ VR φ a v
  | _, _ => False

theorem findAsking_ok (hr : Rel φ s w) {kt : TypeId} {k : AV} {kv : Value} (hk : VR φ k kv) : ∀ (es : List (AV × AV × Nat)) (fs : List MapEntry) (i : Nat) (r : Option (Nat × AV)), ER φ es fs → findK D s.h kt k es i = some r →
    ∃ r', FR φ r r' ∧ (Instr.findAsking kt kv fs i).run P w = .ok r' w
  | [], [], i, r, _, h => by simp [findK] at h; subst h; exact ⟨none, trivial, by simp [Instr.findAsking]⟩
  | (k', v, b) :: es, e :: fs, i, r, he, h => by
    obtain ⟨h1, h2, h3, h4⟩ := he
    simp only [findK] at h
    have hq : ∀ q, aeq D s.h depth kt k k' = some q → (Op.equal kt kv e.key).run P w = .ok q w := fun q hq => (aeq_ok hD hr depth).1 kt k k' q kv e.key 10000 hq hk h1 (by unfold depth; omega)
    split at h
    · rename_i hq'
      split at h
      · simp at h; subst h
        exact ⟨some (i, e.val), ⟨rfl, h2⟩, by simp [Instr.findAsking, hq _ hq']⟩
      · simp at h
    · rename_i hq'
      obtain ⟨r', g1, g2⟩ := findAsking_ok hr hk es fs (i + 1) r h4 h
      exact ⟨r', g1, by simp [Instr.findAsking, hq _ hq', g2]⟩
    · simp at h

theorem aeq_now (hr : Rel φ s w) {kt : TypeId} {de : TypeDesc} (hu : (underlying kt).run P w = .ok de w) {k k' : AV} {kv kv' : Value} (hk : VR φ k kv) (hk' : VR φ k' kv') {q : Bool} (h : aeq D s.h depth kt k k' = some q) :
    Instr.sameNow de kv kv' = some q ∨ Instr.sameNow de kv kv' = none := by
  have := (aeq_ok hD hr depth).1 kt k k' q kv kv' 10000 h hk hk' (by unfold depth; omega)
  cases hs : Instr.sameNow de kv kv' with
  | none => exact .inr rfl
  | some r =>
    left
    congr 1
    obtain ⟨m, hm⟩ : ∃ m, (10000 : Nat) = m + 1 := ⟨9999, rfl⟩
    rw [hm] at this
    unfold Instr.sameNow at hs
    split at hs
    · split at hs
      · rename_i hkk
        subst hkk
        simp at hs
        subst hs
        simpa [Op.equalIn, hu] using this
      · simp at hs
    · simp at hs
      subst hs
      simpa [Op.equalIn, hu] using this
    · simp at hs
      subst hs
      simpa [Op.equalIn, hu] using this
    · simp at hs

theorem findNow_ok (hr : Rel φ s w) {kt : TypeId} {de : TypeDesc} (hu : (underlying kt).run P w = .ok de w) {k : AV} {kv : Value} (hk : VR φ k kv) : ∀ (es : List (AV × AV × Nat)) (fs : List MapEntry) (i : Nat) (r : Option (Nat × AV)), ER φ es fs → findK D s.h kt k es i = some r →
    (∃ r', FR φ r r' ∧ Instr.findNow de kv fs i = some r') ∨ Instr.findNow de kv fs i = none
  | [], [], i, r, _, h => by simp [findK] at h; subst h; exact .inl ⟨none, trivial, by simp [Instr.findNow]⟩
  | (k', v, b) :: es, e :: fs, i, r, he, h => by
    obtain ⟨h1, h2, h3, h4⟩ := he
    simp only [findK] at h
    split at h
    · rename_i hq'
      split at h
      · simp at h; subst h
        rcases aeq_now hD hr hu hk h1 hq' with hn | hn
        · exact .inl ⟨some (i, e.val), ⟨rfl, h2⟩, by simp [Instr.findNow, hn]⟩
        · exact .inr (by simp [Instr.findNow, hn])
      · simp at h
    · rename_i hq'
      rcases aeq_now hD hr hu hk h1 hq' with hn | hn
      · rcases findNow_ok hr hu hk es fs (i + 1) r h4 h with ⟨r', g1, g2⟩ | g
        · exact .inl ⟨r', g1, by simp [Instr.findNow, hn, g2]⟩
        · exact .inr (by simp [Instr.findNow, hn, g])
      · exact .inr (by simp [Instr.findNow, hn])
    · simp at h

theorem findKey_ok (hr : Rel φ s w) {kt : TypeId} {i0 : TyI} (hi : D.ty.get kt = some i0) {k : AV} {kv : Value} (hk : VR φ k kv) {es : List (AV × AV × Nat)} {fs : List MapEntry} {r : Option (Nat × AV)} (he : ER φ es fs)
    (h : findK D s.h kt k es 0 = some r) : ∃ r', FR φ r r' ∧ (Instr.findKey kt kv fs).run P w = .ok r' w := by
  obtain ⟨de, _, _, hu⟩ := run_under hD hi w
  rcases findNow_ok hD hr hu hk es fs 0 r he h with ⟨r', g1, g2⟩ | g
  · exact ⟨r', g1, by simp [Instr.findKey, hu, g2]⟩
  · obtain ⟨r', g1, g2⟩ := findAsking_ok hD hr hk es fs 0 r he h
    exact ⟨r', g1, by simp [Instr.findKey, hu, g, g2]⟩

omit hD in
/-- The entry that was found: its key is the one that was asked for. -/
theorem findK_at {kt : TypeId} {k : AV} : ∀ (es : List (AV × AV × Nat)) (i j : Nat) (v : AV), findK D s.h kt k es i = some (some (j, v)) → ∃ k' b, i ≤ j ∧ es[j - i]? = some (k', v, b) ∧ geq k k' = true
  | [], i, j, v, h => by simp [findK] at h
  | (k', u, b) :: es, i, j, v, h => by
    simp only [findK] at h
    split at h
    · split at h
      · rename_i hg
        simp at h
        obtain ⟨rfl, rfl⟩ := h
        exact ⟨k', b, Nat.le_refl _, by simp, hg⟩
      · simp at h
    · obtain ⟨k2, b2, h1, h2, h3⟩ := findK_at es (i + 1) j v h
      refine ⟨k2, b2, by omega, ?_, h3⟩
      rw [show j - i = (j - (i + 1)) + 1 by omega]
      simpa using h2
    · simp at h

end
end Go.Eng
