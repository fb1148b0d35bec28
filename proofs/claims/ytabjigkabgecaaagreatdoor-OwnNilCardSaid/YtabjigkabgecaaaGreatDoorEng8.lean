/-
  The abstract interpreter, its soundness: equality; maps.
-/
import Derived.Test.YtabjigkabgecaaaGreatDoorEng7
import Derived.Laws.StructEq
import Derived.MapKept
namespace Go.Eng
variable {P : Program} {D : Tab} {φ : Phi} {s : St} {w : World} {T : PT AV} {ρ : Operand → Value}

theorem VR.bool_inv {b : Bool} {v : Value} (h : VR φ (.bool b) v) : v = .bool b := by cases h; rfl
theorem VR.int_inv {k : IntKind} {n : Int} {v : Value} (h : VR φ (.int k n) v) : v = .int k n := by cases h; rfl
theorem VR.str_inv {b : ByteArray} {v : Value} (h : VR φ (.str b) v) : v = .string b := by cases h; rfl

theorem tdOf_struct {d : TypeDesc} {fs : List (TypeId × Nat × Bool)} (h : TD.struct fs = tdOf d) : ∃ gs, d = .struct gs ∧ fs = gs.toList.map fun f => (f.type, f.offset, f.name != "_") := by
  cases d <;> simp [tdOf] at h
  exact ⟨_, rfl, h⟩

section
variable (hD : TabOk P D)
include hD

theorem part_ok {t : TypeId} {i : TyI} (hi : D.ty.get t = some i) {xs : List AV} {us : List Value} (hx : VRs φ xs us) {off : Nat} {a : AV} (h : partAV i xs off = some a) (w : World) :
    ∃ u, VR φ a u ∧ (part t us.toArray off).run P w = .ok u w := by
  unfold partAV at h
  have hagg := run_agg hD hi
  have hsz := run_size hD hi
  unfold part
  split at h
  · rename_i fs hd
    simp at h
    subst h
    refine ⟨_, .agg ((hx.drop off).take i.size), ?_⟩
    simp [hagg, hd, TD.isAgg, hsz]
  · rename_i k e hd
    simp at h
    subst h
    refine ⟨_, .agg ((hx.drop off).take i.size), ?_⟩
    simp [hagg, hd, TD.isAgg, hsz]
  · rename_i hd1 hd2
    have hna : i.d.isAgg = false := by
      unfold TD.isAgg
      split
      · rename_i fs hd; exact absurd hd (by simpa using hd1 fs)
      · rename_i k e hd; exact absurd hd (by simpa using hd2 k e)
      · rfl
    obtain ⟨u, h1, h2⟩ := hx.get off a h
    refine ⟨u, h2, ?_⟩
    simp [hagg, hna, h1]

omit hD in
theorem sameAddr_other (h : Rel φ s w) {a b o u : Nat} {ra sa rb sb : Nat} (hab : a ≠ b) (ha : live s.h a = true) (hb : live s.h b = true) (ht : (textual s.h a && textual s.h b) = false) (hra : φ.blk a = some (ra, sa)) (hrb : φ.blk b = some (rb, sb)) :
    (sameAddr ⟨ra, sa + o, none⟩ ⟨rb, sb + u, none⟩).run P w = .ok false w := by
  unfold live at ha hb
  split at ha <;> simp at ha
  split at hb <;> simp at hb
  rename_i ca na tla hga _ cb nb tlb hgb
  obtain ⟨r1, s1, arr1, e1, fz1, h1, h2, h3, h4⟩ := h.cells hga
  obtain ⟨r2, s2, arr2, e2, fz2, g1, g2, g3, g4⟩ := h.cells hgb
  rw [hra] at h1; simp at h1; obtain ⟨rfl, rfl⟩ := h1
  rw [hrb] at g1; simp at g1; obtain ⟨rfl, rfl⟩ := g1
  have hne : ra ≠ rb := by
    rintro rfl
    exact hab (h.inj a b ra sa sb (by simp [hga]) (by simp [hgb]) hra hrb)
  have z1 : 0 < arr1.size := by have := h3.1; omega
  have z2 : 0 < arr2.size := by have := g3.1; omega
  have hor : fz1 = (0, 0) ∨ fz2 = (0, 0) := by
    rcases h4 with ⟨_, h4⟩ | ⟨k, z, cp, rfl, _, _, h4 | ⟨rfl, _⟩⟩
    · exact .inl h4
    · exact .inl h4
    · rcases g4 with ⟨_, g4⟩ | ⟨k, z, cp, rfl, _, _, g4 | ⟨rfl, _⟩⟩
      · exact .inr g4
      · exact .inr g4
      · simp [textual, hga, hgb] at ht
  obtain ⟨n1, hn1⟩ : ∃ n, arr1.size = n + 1 := ⟨arr1.size - 1, by omega⟩
  obtain ⟨n2, hn2⟩ : ∃ n, arr2.size = n + 1 := ⟨arr2.size - 1, by omega⟩
  simp only [sameAddr]
  have hbeq : (ra == rb) = false := by simpa using hne
  simp only [hbeq, Bool.false_eq_true, if_false]
  rcases hor with rfl | rfl
  · simp [World.frozen?, h2, g2, noView, viewAt, World.shape?, mayBeOne, stringish, hn1, hn2]
  · simp [World.frozen?, h2, g2, noView, viewAt, World.shape?, mayBeOne, stringish, hn1, hn2]

omit hD in
theorem eqBool_ok {t : TypeId} {a b : AV} {r : Bool} {x y : Value} (d : Nat) (hu : (underlying t).run P w = .ok .bool w) (h : eqBool a b = some r) (hx : VR φ a x) (hy : VR φ b y) : (Op.equalIn (d + 1) t x y).run P w = .ok r w := by
  unfold eqBool at h
  split at h <;> simp at h
  subst h
  cases hx; cases hy
  simp [Op.equalIn, hu]

omit hD in
theorem eqInt_ok {t : TypeId} {k : IntKind} {a b : AV} {r : Bool} {x y : Value} (d : Nat) (hu : (underlying t).run P w = .ok (.int k) w) (h : eqInt a b = some r) (hx : VR φ a x) (hy : VR φ b y) : (Op.equalIn (d + 1) t x y).run P w = .ok r w := by
  unfold eqInt at h
  split at h <;> simp at h
  obtain ⟨rfl, rfl⟩ := h
  cases hx; cases hy
  simp [Op.equalIn, hu]

omit hD in
theorem eqStr_ok {t : TypeId} {a b : AV} {r : Bool} {x y : Value} (d : Nat) (hu : (underlying t).run P w = .ok .string w) (h : eqStr a b = some r) (hx : VR φ a x) (hy : VR φ b y) : (Op.equalIn (d + 1) t x y).run P w = .ok r w := by
  unfold eqStr at h
  split at h <;> simp at h
  subst h
  cases hx; cases hy
  simp [Op.equalIn, hu, bytesEq_eq, beq_toListBytes, ByteArray.toList_eq]

theorem eqPtr_ok (hr : Rel φ s w) {t e : TypeId} {a b : AV} {r : Bool} {x y : Value} (d : Nat) (hu : (underlying t).run P w = .ok (.pointer e) w) (h : eqPtr D s.h e a b = some r) (hx : VR φ a x) (hy : VR φ b y) : (Op.equalIn (d + 1) t x y).run P w = .ok r w := by
  unfold eqPtr at h
  split at h
  · simp at h; subst h; cases hx; cases hy; simp [Op.equalIn, hu]
  · simp at h; subst h; cases hx; cases hy; simp [Op.equalIn, hu]
  · simp at h; subst h; cases hx; cases hy; simp [Op.equalIn, hu]
  · rename_i a1 o1 b1 o2
    cases hx with
    | ptr h1 =>
      cases hy with
      | ptr h2 =>
        unfold eqAddr at h
        split at h
        · rename_i ei hei
          split at h
          · simp at h
          · rename_i m hm
            have hsz := run_size hD hei w
            split at h
            · rename_i hab
              have := beq_true hab
              subst this
              rw [h1] at h2
              simp at h2
              obtain ⟨rfl, rfl⟩ := h2
              simp at h
              subst h
              simp only [Op.equalIn, Sem.run_bind, hu, Result.andThen_ok, hsz, hm]
              simp [sameAddr]
              rw [Bool.eq_iff_iff]; simp
            · rename_i hab
              split at h
              · rename_i hl
                simp at h
                subst h
                simp only [Bool.and_eq_true, Bool.not_eq_true'] at hl
                have hne : a1 ≠ b1 := by rintro rfl; simp at hab
                have := sameAddr_other (P := P) (o := o1) (u := o2) hr hne hl.1.1 hl.1.2 hl.2 h1 h2
                simp only [Op.equalIn, Sem.run_bind, hu, Result.andThen_ok, hsz, hm]
                simp [this]
              · simp at h
        · simp at h
  · simp at h

omit hD in
theorem eqIface_ok {t : TypeId} {ms : Array (String × TypeId)} {a b : AV} {r : Bool} {x y : Value} (d : Nat) (hu : (underlying t).run P w = .ok (.interface ms) w) (h : eqIface a b = some r) (hx : VR φ a x) (hy : VR φ b y) : (Op.equalIn (d + 1) t x y).run P w = .ok r w := by
  unfold eqIface at h
  split at h <;> simp at h <;> subst h <;> cases hx <;> cases hy <;> simp [Op.equalIn, hu]

omit hD in
theorem eqSlice_ok {t e : TypeId} {a b : AV} {r : Bool} {x y : Value} (d : Nat) (hu : (underlying t).run P w = .ok (.slice e) w) (h : eqSlice a b = some r) (hx : VR φ a x) (hy : VR φ b y) : (Op.equalIn (d + 1) t x y).run P w = .ok r w := by
  unfold eqSlice at h
  split at h <;> simp at h <;> subst h <;> cases hx <;> cases hy <;> simp [Op.equalIn, hu]

omit hD in
theorem eqMap_ok {t k e : TypeId} {a b : AV} {r : Bool} {x y : Value} (d : Nat) (hu : (underlying t).run P w = .ok (.map k e) w) (h : eqMap a b = some r) (hx : VR φ a x) (hy : VR φ b y) : (Op.equalIn (d + 1) t x y).run P w = .ok r w := by
  unfold eqMap at h
  split at h <;> simp at h <;> subst h <;> cases hx <;> cases hy <;> simp [Op.equalIn, hu]

omit hD in
theorem eqFunc_ok {t : TypeId} {ps rs : Array TypeId} {vd : Bool} {a b : AV} {r : Bool} {x y : Value} (d : Nat) (hu : (underlying t).run P w = .ok (.func ps rs vd) w) (h : eqFunc a b = some r) (hx : VR φ a x) (hy : VR φ b y) : (Op.equalIn (d + 1) t x y).run P w = .ok r w := by
  unfold eqFunc at h
  split at h <;> simp at h <;> subst h <;> cases hx <;> cases hy <;> simp [Op.equalIn, hu]

theorem field_ok {t : TypeId} {i : TyI} (hi : D.ty.get t = some i) {x : AV} {us : List Value} (hx : VR φ x (.agg us.toArray)) {off : Nat} {a : AV} (h : fieldOf i x off = some a) (w : World) :
    ∃ u, VR φ a u ∧ (part t us.toArray off).run P w = .ok u w := by
  unfold fieldOf at h
  split at h
  · generalize hv : Value.agg us.toArray = v at hx
    cases hx with
    | agg hx =>
      simp at hv
      subst hv
      exact part_ok hD hi hx h w
  · simp at h

theorem aeq_ok (hr : Rel φ s w) : ∀ (d : Nat),
    (∀ (t : TypeId) (a b : AV) (r : Bool) (x y : Value) (d' : Nat), aeq D s.h d t a b = some r → VR φ a x → VR φ b y → d ≤ d' → (Op.equalIn d' t x y).run P w = .ok r w) ∧
    (∀ (fs : List Field) (x y : AV) (r : Bool) (u v : Value) (d' : Nat), aeqs D s.h d (fs.map fun f => (f.type, f.offset, f.name != "_")) x y = some r → VR φ x u → VR φ y v → d ≤ d' →
      ∃ us vs : List Value, u = .agg us.toArray ∧ v = .agg vs.toArray ∧ (Op.eqFields d' us.toArray vs.toArray fs).run P w = .ok r w) := by
  intro d
  induction d with
  | zero =>
    constructor
    · intro t a b r x y d' h; simp [aeq] at h
    · intro fs xs ys r us vs d' h; simp [aeqs] at h
  | succ d ih =>
    constructor
    · intro t a b r x y d' h hx hy hd
      obtain ⟨d', rfl⟩ : ∃ m, d' = m + 1 := ⟨d' - 1, by omega⟩
      simp only [aeq] at h
      split at h
      · simp at h
      · rename_i i hi
        obtain ⟨de, hu, hde, hrun⟩ := run_under hD hi w
        rw [hde] at h
        cases de <;> simp only [tdOf, reduceCtorEq] at h
        case bool => exact eqBool_ok d' hrun h hx hy
        case int k => exact eqInt_ok d' hrun h hx hy
        case string => exact eqStr_ok d' hrun h hx hy
        case pointer e => exact eqPtr_ok hD hr d' hrun h hx hy
        case slice e => exact eqSlice_ok d' hrun h hx hy
        case map k e => exact eqMap_ok d' hrun h hx hy
        case func => exact eqFunc_ok d' hrun h hx hy
        case interface => exact eqIface_ok d' hrun h hx hy
        case struct fs =>
          split at h
          · simp at h
          · rename_i hh
            obtain ⟨ti, dd, g1, g2, g3, _, _, _, g4⟩ := tyOf_spec (hD.ty t i hi)
            rw [hu] at g2
            simp at g2
            subst g2
            have hst := (g4 (by simpa using hh) fs rfl).1
            have hf : P.fieldsOf t = fs := by simp [Program.fieldsOf, hu]
            obtain ⟨us, vs, rfl, rfl, e1⟩ := ih.2 fs.toList a b r x y d' h hx hy (by omega)
            rw [run_equalIn_struct w d' t _ _ (by rw [hf]; exact hu) hst, hf]
            exact e1
    · intro fs x y r u v d' h hx hy hd
      obtain ⟨d', rfl⟩ : ∃ m, d' = m + 1 := ⟨d' - 1, by omega⟩
      cases fs with
      | nil =>
        simp only [aeqs, List.map_nil] at h
        split at h
        · simp at h
          subst h
          cases hx; cases hy
          exact ⟨_, _, rfl, rfl, by simp [Op.eqFields]⟩
        · simp at h
      | cons f fs =>
        simp only [aeqs, List.map_cons] at h
        split at h
        · rename_i hn
          have hn' : f.name = "_" := by simpa using hn
          obtain ⟨us, vs, e0, e1, e2⟩ := ih.2 fs x y r u v (d' + 1) h hx hy (by omega)
          exact ⟨us, vs, e0, e1, by simp [Op.eqFields, hn', e2]⟩
        · rename_i hn
          have hn' : f.name ≠ "_" := by simpa using hn
          split at h
          · simp at h
          · rename_i i hi
            split at h
            · rename_i a b ha hb
              have hxa : ∃ us : List Value, u = .agg us.toArray := by
                unfold fieldOf at ha
                split at ha
                · cases hx; exact ⟨_, rfl⟩
                · simp at ha
              have hya : ∃ vs : List Value, v = .agg vs.toArray := by
                unfold fieldOf at hb
                split at hb
                · cases hy; exact ⟨_, rfl⟩
                · simp at hb
              obtain ⟨us, rfl⟩ := hxa
              obtain ⟨vs, rfl⟩ := hya
              obtain ⟨u', u1, u2⟩ := field_ok hD hi hx ha w
              obtain ⟨v', v1, v2⟩ := field_ok hD hi hy hb w
              refine ⟨us, vs, rfl, rfl, ?_⟩
              split at h
              · rename_i he
                have e1 := ih.1 f.type a b true u' v' (d' + 1) he u1 v1 (by omega)
                obtain ⟨us', vs', g0, g1, e2⟩ := ih.2 fs x y r _ _ (d' + 1) h hx hy (by omega)
                simp at g0 g1
                subst g0; subst g1
                simp [Op.eqFields, hn', u2, v2, e1, e2]
              · rename_i he
                have e1 := ih.1 f.type a b r u' v' (d' + 1) h u1 v1 (by omega)
                have hr' : r = false := by
                  cases r
                  · rfl
                  · exact absurd h he
                subst hr'
                simp [Op.eqFields, hn', u2, v2, e1]
            · simp at h

end
end Go.Eng
