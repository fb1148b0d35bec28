/-
  The abstract interpreter, its soundness: equality; maps.
  The abstract interpreter, its soundness: maps.
  The abstract interpreter, its soundness: operations on maps.
  The abstract interpreter, its soundness: entries of maps, ranges over maps.
  The abstract interpreter, its soundness: aggregates, slices.
  The abstract interpreter, its soundness: zeros, append.
  The abstract interpreter, its soundness: append, slices, copy.
-/
import Derived.Test.YtnhlppginnojfaaDoorEng7
import Derived.Laws.StructEq
import Derived.MapKept
set_option linter.unusedVariables false
set_option linter.unusedSimpArgs false
namespace Go.Eng
variable {P : Program} {D : Tab} {φ : Phi} {s : St} {w : World} {T : PT AV} {ρ : Operand → Value}
theorem tdOf_struct {d : TypeDesc} {fs : List (TypeId × Nat × Bool)} (h : TD.struct fs = tdOf d) : ∃ gs, d = .struct gs ∧ fs = gs.toList.map fun f => (f.type, f.offset, f.name != "_") := by
 cases d <;> simp [tdOf] at h
 exact ⟨_, rfl, h⟩
section
variable (hD : TabOk P D)
include hD
theorem part_ok {t : TypeId} {i : TyI} (hi : D.ty.get t = some i) {xs : List AV} {us : List Value} (hx : VRs φ xs us) {off : Nat} {a : AV} (h : partAV i xs off = some a) (w : World) :
  ∃ u, VR φ a u ∧ (part t us.toArray off).run P w = .ok u w := by
 unfold partAV at h
 have hagg := run_agg hD hi
 have hsz := run_size hD hi
 unfold part
 split at h
 ·rename_i fs hd
  simp at h
  subst h
  refine ⟨_, .agg ((hx.drop off).take i.size), ?_⟩
  simp [hagg, hd, TD.isAgg, hsz]
 ·rename_i k e hd
  simp at h
  subst h
  refine ⟨_, .agg ((hx.drop off).take i.size), ?_⟩
  simp [hagg, hd, TD.isAgg, hsz]
 ·rename_i hd1 hd2
  have hna : i.d.isAgg = false := by
   unfold TD.isAgg
   split
   ·rename_i fs hd; exact absurd hd (by simpa using hd1 fs)
   ·rename_i k e hd; exact absurd hd (by simpa using hd2 k e)
   ·rfl
  obtain ⟨u, h1, h2⟩ := hx.get off a h
  refine ⟨u, h2, ?_⟩
  simp [hagg, hna, h1]
omit hD in
theorem sameAddr_other (h : Rel φ s w) {a b o u : Nat} {ra sa rb sb : Nat} (hab : a ≠ b) (ha : live s.h a = true) (hb : live s.h b = true) (ht : (textual s.h a && textual s.h b) = false) (hra : φ.blk a = some (ra, sa)) (hrb : φ.blk b = some (rb, sb)) :
  (sameAddr ⟨ra, sa + o, none⟩ ⟨rb, sb + u, none⟩).run P w = .ok false w := by
 unfold live at ha hb
 split at ha <;> simp at ha
 split at hb <;> simp at hb
 rename_i ca na tla hga _ cb nb tlb hgb
 obtain ⟨r1, s1, arr1, e1, fz1, h1, h2, h3, h4⟩ := h.cells hga
 obtain ⟨r2, s2, arr2, e2, fz2, g1, g2, g3, g4⟩ := h.cells hgb
 rw [hra] at h1; simp at h1; obtain ⟨rfl, rfl⟩ := h1
 rw [hrb] at g1; simp at g1; obtain ⟨rfl, rfl⟩ := g1
 have hne : ra ≠ rb := by
  rintro rfl
  exact hab (h.inj a b ra sa sb (by simp [hga]) (by simp [hgb]) hra hrb)
 have z1 : 0 < arr1.size := by have := h3.1; omega
 have z2 : 0 < arr2.size := by have := g3.1; omega
 have hor : fz1 = (0, 0) ∨ fz2 = (0, 0) := by
  rcases h4 with ⟨_, h4⟩ | ⟨k, z, cp, rfl, _, _, h4 | ⟨rfl, _⟩⟩ | ⟨k, rfl⟩
  ·exact .inl h4
  ·exact .inl h4
  ·rcases g4 with ⟨_, g4⟩ | ⟨k, z, cp, rfl, _, _, g4 | ⟨rfl, _⟩⟩ | ⟨k, rfl⟩
   ·exact .inr g4
   ·exact .inr g4
   ·simp [textual, hga, hgb] at ht
   ·simp [textual, hga, hgb] at ht
  ·rcases g4 with ⟨_, g4⟩ | ⟨k, z, cp, rfl, _, _, g4 | ⟨rfl, _⟩⟩ | ⟨k, rfl⟩
   ·exact .inr g4
   ·exact .inr g4
   ·simp [textual, hga, hgb] at ht
   ·simp [textual, hga, hgb] at ht
 obtain ⟨n1, hn1⟩ : ∃ n, arr1.size = n + 1 := ⟨arr1.size - 1, by omega⟩
 obtain ⟨n2, hn2⟩ : ∃ n, arr2.size = n + 1 := ⟨arr2.size - 1, by omega⟩
 simp only [sameAddr]
 have hbeq : (ra == rb) = false := by simpa using hne
 simp only [hbeq, Bool.false_eq_true, if_false]
 rcases hor with rfl | rfl
 ·simp [World.frozen?, h2, g2, noView, viewAt, World.shape?, mayBeOne, stringish, hn1, hn2]
 ·simp [World.frozen?, h2, g2, noView, viewAt, World.shape?, mayBeOne, stringish, hn1, hn2]
omit hD in
theorem eqBool_ok {t : TypeId} {a b : AV} {r : Bool} {x y : Value} (d : Nat) (hu : (underlying t).run P w = .ok .bool w) (h : eqBool a b = some r) (hx : VR φ a x) (hy : VR φ b y) : (Op.equalIn (d + 1) t x y).run P w = .ok r w := by
 unfold eqBool at h
 split at h <;> simp at h
 subst h
 cases hx; cases hy
 simp [Op.equalIn, hu]
omit hD in
theorem eqInt_ok {t : TypeId} {k : IntKind} {a b : AV} {r : Bool} {x y : Value} (d : Nat) (hu : (underlying t).run P w = .ok (.int k) w) (h : eqInt a b = some r) (hx : VR φ a x) (hy : VR φ b y) : (Op.equalIn (d + 1) t x y).run P w = .ok r w := by
 unfold eqInt at h
 split at h <;> simp at h
 obtain ⟨rfl, rfl⟩ := h
 cases hx; cases hy
 simp [Op.equalIn, hu]
omit hD in
theorem eqStr_ok {t : TypeId} {a b : AV} {r : Bool} {x y : Value} (d : Nat) (hu : (underlying t).run P w = .ok .string w) (h : eqStr a b = some r) (hx : VR φ a x) (hy : VR φ b y) : (Op.equalIn (d + 1) t x y).run P w = .ok r w := by
 unfold eqStr at h
 split at h <;> simp at h
 subst h
 cases hx; cases hy
 simp [Op.equalIn, hu, bytesEq_eq, beq_toListBytes, ByteArray.toList_eq]
theorem eqPtr_ok (hr : Rel φ s w) {t e : TypeId} {a b : AV} {r : Bool} {x y : Value} (d : Nat) (hu : (underlying t).run P w = .ok (.pointer e) w) (h : eqPtr D s.h e a b = some r) (hx : VR φ a x) (hy : VR φ b y) : (Op.equalIn (d + 1) t x y).run P w = .ok r w := by
 unfold eqPtr at h
 split at h
 ·simp at h; subst h; cases hx; cases hy; simp [Op.equalIn, hu]
 ·simp at h; subst h; cases hx; cases hy; simp [Op.equalIn, hu]
 ·simp at h; subst h; cases hx; cases hy; simp [Op.equalIn, hu]
 ·rename_i a1 o1 b1 o2
  cases hx with
  | ptr h1 =>
   cases hy with
   | ptr h2 =>
    unfold eqAddr at h
    split at h
    ·rename_i ei hei
     split at h
     ·simp at h
     ·rename_i m hm
      have hsz := run_size hD hei w
      split at h
      ·rename_i hab
       have := beq_true hab
       subst this
       rw [h1] at h2
       simp at h2
       obtain ⟨rfl, rfl⟩ := h2
       simp at h
       subst h
       simp only [Op.equalIn, Sem.run_bind, hu, Result.andThen_ok, hsz, hm]
       simp [sameAddr]
       rw [Bool.eq_iff_iff]; simp
      ·rename_i hab
       split at h
       ·rename_i hl
        simp at h
        subst h
        simp only [Bool.and_eq_true, Bool.not_eq_true'] at hl
        have hne : a1 ≠ b1 := by rintro rfl; simp at hab
        have := sameAddr_other (P := P) (o := o1) (u := o2) hr hne hl.1.1 hl.1.2 hl.2 h1 h2
        simp only [Op.equalIn, Sem.run_bind, hu, Result.andThen_ok, hsz, hm]
        simp [this]
       ·simp at h
    ·simp at h
 ·simp at h
omit hD in
theorem eqIface_ok {t : TypeId} {ms : Array (String × TypeId)} {a b : AV} {r : Bool} {x y : Value} (d : Nat) (hu : (underlying t).run P w = .ok (.interface ms) w) (h : eqIface a b = some r) (hx : VR φ a x) (hy : VR φ b y) : (Op.equalIn (d + 1) t x y).run P w = .ok r w := by
 unfold eqIface at h
 split at h <;> simp at h <;> subst h <;> cases hx <;> cases hy <;> simp [Op.equalIn, hu]
omit hD in
theorem eqSlice_ok {t e : TypeId} {a b : AV} {r : Bool} {x y : Value} (d : Nat) (hu : (underlying t).run P w = .ok (.slice e) w) (h : eqSlice a b = some r) (hx : VR φ a x) (hy : VR φ b y) : (Op.equalIn (d + 1) t x y).run P w = .ok r w := by
 unfold eqSlice at h
 split at h <;> simp at h <;> subst h <;> cases hx <;> cases hy <;> simp [Op.equalIn, hu]
omit hD in
theorem eqMap_ok {t k e : TypeId} {a b : AV} {r : Bool} {x y : Value} (d : Nat) (hu : (underlying t).run P w = .ok (.map k e) w) (h : eqMap a b = some r) (hx : VR φ a x) (hy : VR φ b y) : (Op.equalIn (d + 1) t x y).run P w = .ok r w := by
 unfold eqMap at h
 split at h <;> simp at h <;> subst h <;> cases hx <;> cases hy <;> simp [Op.equalIn, hu]
omit hD in
theorem eqFunc_ok {t : TypeId} {ps rs : Array TypeId} {vd : Bool} {a b : AV} {r : Bool} {x y : Value} (d : Nat) (hu : (underlying t).run P w = .ok (.func ps rs vd) w) (h : eqFunc a b = some r) (hx : VR φ a x) (hy : VR φ b y) : (Op.equalIn (d + 1) t x y).run P w = .ok r w := by
 unfold eqFunc at h
 split at h <;> simp at h <;> subst h <;> cases hx <;> cases hy <;> simp [Op.equalIn, hu]
theorem field_ok {t : TypeId} {i : TyI} (hi : D.ty.get t = some i) {x : AV} {us : List Value} (hx : VR φ x (.agg us.toArray)) {off : Nat} {a : AV} (h : fieldOf i x off = some a) (w : World) :
  ∃ u, VR φ a u ∧ (part t us.toArray off).run P w = .ok u w := by
 unfold fieldOf at h
 split at h
 ·generalize hv : Value.agg us.toArray = v at hx
  cases hx with
  | agg hx =>
   simp at hv
   subst hv
   exact part_ok hD hi hx h w
 ·simp at h
theorem aeq_ok (hr : Rel φ s w) : ∀ (d : Nat),
  (∀ (t : TypeId) (a b : AV) (r : Bool) (x y : Value) (d' : Nat), aeq D s.h d t a b = some r → VR φ a x → VR φ b y → d ≤ d' → (Op.equalIn d' t x y).run P w = .ok r w) ∧
  (∀ (fs : List Field) (x y : AV) (r : Bool) (u v : Value) (d' : Nat), aeqs D s.h d (fs.map fun f => (f.type, f.offset, f.name != "_")) x y = some r → VR φ x u → VR φ y v → d ≤ d' →
   ∃ us vs : List Value, u = .agg us.toArray ∧ v = .agg vs.toArray ∧ (Op.eqFields d' us.toArray vs.toArray fs).run P w = .ok r w) := by
 intro d
 induction d with
 | zero =>
  constructor
  ·intro t a b r x y d' h; simp [aeq] at h
  ·intro fs xs ys r us vs d' h; simp [aeqs] at h
 | succ d ih =>
  constructor
  ·intro t a b r x y d' h hx hy hd
   obtain ⟨d', rfl⟩ : ∃ m, d' = m + 1 := ⟨d' - 1, by omega⟩
   simp only [aeq] at h
   split at h
   ·simp at h
   ·rename_i i hi
    obtain ⟨de, hu, hde, hrun⟩ := run_under hD hi w
    rw [hde] at h
    cases de <;> simp only [tdOf, reduceCtorEq] at h
    case bool => exact eqBool_ok d' hrun h hx hy
    case int k => exact eqInt_ok d' hrun h hx hy
    case string => exact eqStr_ok d' hrun h hx hy
    case pointer e => exact eqPtr_ok hD hr d' hrun h hx hy
    case slice e => exact eqSlice_ok d' hrun h hx hy
    case map k e => exact eqMap_ok d' hrun h hx hy
    case func => exact eqFunc_ok d' hrun h hx hy
    case interface => exact eqIface_ok d' hrun h hx hy
    case struct fs =>
     split at h
     ·simp at h
     ·rename_i hh
      obtain ⟨ti, dd, g1, g2, g3, _, _, _, g4⟩ := tyOf_spec (hD.ty t i hi)
      rw [hu] at g2
      simp at g2
      subst g2
      have hst := (g4 (by simpa using hh) fs rfl).1
      have hf : P.fieldsOf t = fs := by simp [Program.fieldsOf, hu]
      obtain ⟨us, vs, rfl, rfl, e1⟩ := ih.2 fs.toList a b r x y d' h hx hy (by omega)
      rw [run_equalIn_struct w d' t _ _ (by rw [hf]; exact hu) hst, hf]
      exact e1
  ·intro fs x y r u v d' h hx hy hd
   obtain ⟨d', rfl⟩ : ∃ m, d' = m + 1 := ⟨d' - 1, by omega⟩
   cases fs with
   | nil =>
    simp only [aeqs, List.map_nil] at h
    split at h
    ·simp at h
     subst h
     cases hx; cases hy
     exact ⟨_, _, rfl, rfl, by simp [Op.eqFields]⟩
    ·simp at h
   | cons f fs =>
    simp only [aeqs, List.map_cons] at h
    split at h
    ·rename_i hn
     have hn' : f.name = "_" := by simpa using hn
     obtain ⟨us, vs, e0, e1, e2⟩ := ih.2 fs x y r u v (d' + 1) h hx hy (by omega)
     exact ⟨us, vs, e0, e1, by simp [Op.eqFields, hn', e2]⟩
    ·rename_i hn
     have hn' : f.name ≠ "_" := by simpa using hn
     split at h
     ·simp at h
     ·rename_i i hi
      split at h
      ·rename_i a b ha hb
       have hxa : ∃ us : List Value, u = .agg us.toArray := by
        unfold fieldOf at ha
        split at ha
        ·cases hx; exact ⟨_, rfl⟩
        ·simp at ha
       have hya : ∃ vs : List Value, v = .agg vs.toArray := by
        unfold fieldOf at hb
        split at hb
        ·cases hy; exact ⟨_, rfl⟩
        ·simp at hb
       obtain ⟨us, rfl⟩ := hxa
       obtain ⟨vs, rfl⟩ := hya
       obtain ⟨u', u1, u2⟩ := field_ok hD hi hx ha w
       obtain ⟨v', v1, v2⟩ := field_ok hD hi hy hb w
       refine ⟨us, vs, rfl, rfl, ?_⟩
       split at h
       ·rename_i he
        have e1 := ih.1 f.type a b true u' v' (d' + 1) he u1 v1 (by omega)
        obtain ⟨us', vs', g0, g1, e2⟩ := ih.2 fs x y r _ _ (d' + 1) h hx hy (by omega)
        simp at g0 g1
        subst g0; subst g1
        simp [Op.eqFields, hn', u2, v2, e1, e2]
       ·rename_i he
        have e1 := ih.1 f.type a b r u' v' (d' + 1) h u1 v1 (by omega)
        have hr' : r = false := by
         cases r
         ·rfl
         ·exact absurd h he
        subst hr'
        simp [Op.eqFields, hn', u2, v2, e1]
      ·simp at h
end
end Go.Eng

namespace Go.Eng
variable {P : Program} {D : Tab} {φ : Phi} {s : St} {w : World} {T : PT AV} {ρ : Operand → Value}
theorem geq1_eq {a b : AV} (h : geq1 a b = true) : a = b ∧ ∀ x y : Value, VR φ a x → VR φ b y → x = y ∧ Instr.sameBits 9999 y x = true ∧ Instr.sameBits 10000 y x = true := by
 unfold geq1 at h
 split at h
 ·simp at h; subst h; exact ⟨rfl, fun x y hx hy => by cases hx; cases hy; simp [Instr.sameBits]⟩
 ·simp at h; obtain ⟨rfl, rfl⟩ := h; exact ⟨rfl, fun x y hx hy => by cases hx; cases hy; simp [Instr.sameBits]⟩
 ·rename_i a b
  have := bytesEq_iff.1 h
  have e : a = b := by
   obtain ⟨⟨x⟩⟩ := a
   obtain ⟨⟨y⟩⟩ := b
   simp at this
   rw [this]
  subst e
  exact ⟨rfl, fun x y hx hy => by cases hx; cases hy; simp [Instr.sameBits, beq_toListBytes]⟩
 ·exact ⟨rfl, fun x y hx hy => by cases hx; cases hy; simp [Instr.sameBits]⟩
 ·rename_i a o b u
  simp only [Bool.and_eq_true] at h
  have e1 := beq_true h.1
  have e2 := beq_true h.2
  subst e1; subst e2
  refine ⟨rfl, fun x y hx hy => ?_⟩
  cases hx with
  | ptr h1 =>
   cases hy with
   | ptr h2 =>
    rw [h1] at h2
    simp at h2
    obtain ⟨rfl, rfl⟩ := h2
    simp [Instr.sameBits]
 ·simp at h
theorem geqs_eq : ∀ {a b : List AV}, geqs a b = true → a = b ∧ ∀ x y : List Value, VRs φ a x → VRs φ b y → x = y ∧ (y.zip x).all (fun (u, v) => Instr.sameBits 9999 u v) = true
 | [], [], _ => ⟨rfl, fun x y hx hy => by cases hx; cases hy; simp⟩
 | a :: x, b :: y, h => by
  simp only [geqs, Bool.and_eq_true] at h
  obtain ⟨rfl, h1⟩ := geq1_eq (φ := φ) h.1
  obtain ⟨rfl, h2⟩ := geqs_eq h.2
  refine ⟨rfl, fun u v hu hv => ?_⟩
  cases hu with
  | cons hu hus =>
   cases hv with
   | cons hv hvs =>
    obtain ⟨e1, e2, _⟩ := h1 _ _ hu hv
    obtain ⟨e3, e4⟩ := h2 _ _ hus hvs
    subst e1; subst e3
    exact ⟨rfl, by simpa [e2] using e4⟩
 | [], _ :: _, h => by simp [geqs] at h
 | _ :: _, [], h => by simp [geqs] at h
theorem geq_eq {a b : AV} (h : geq a b = true) : a = b ∧ ∀ x y : Value, VR φ a x → VR φ b y → x = y ∧ Instr.sameBits 10000 y x = true := by
 unfold geq at h
 split at h
 ·obtain ⟨rfl, h1⟩ := geqs_eq (φ := φ) h
  refine ⟨rfl, fun x y hx hy => ?_⟩
  cases hx with
  | agg hx =>
   cases hy with
   | agg hy =>
    obtain ⟨e1, e2⟩ := h1 _ _ hx hy
    subst e1
    refine ⟨rfl, ?_⟩
    simp only [Instr.sameBits]
    simpa using e2
 ·obtain ⟨e, h1⟩ := geq1_eq (φ := φ) h
  exact ⟨e, fun x y hx hy => ⟨(h1 x y hx hy).1, (h1 x y hx hy).2.2⟩⟩
theorem run_keyThatStays {old new : Value} (h : Instr.sameBits 10000 old new = true) : (Instr.keyThatStays old new).run P w = .ok new w := by
 simp [Instr.keyThatStays, h]
section
variable (hD : TabOk P D)
include hD
theorem checkKey_fields {k : AV} {us : List Value} (hk : VR φ k (.agg us.toArray)) (em : Bool) (n : Nat) (w : World) {go : TypeId → AV → Bool}
  (hgo : ∀ t a v, VR φ a v → go t a = true → (Instr.checkKey em n t v).run P w = .ok () w) : ∀ (fs : List Field), keyFields D go k (fs.map fun f => (f.type, f.offset, f.name != "_")) = true →
  (forIn fs PUnit.unit fun (f : Field) (_ : PUnit) => (if f.name ≠ "_" then do
    Instr.checkKey em n f.type (← part f.type us.toArray f.offset)
    pure (ForInStep.yield PUnit.unit)
   else pure (ForInStep.yield PUnit.unit) : Sem (ForInStep PUnit))).run P w = .ok PUnit.unit w
 | [], _ => by simp
 | f :: fs, h => by
  simp only [keyFields, List.map_cons, Bool.and_eq_true] at h
  have ih := checkKey_fields hk em n w hgo fs h.2
  simp only [List.forIn_cons, Sem.run_bind]
  by_cases hn : f.name = "_"
  ·rw [if_neg (by simpa using hn)]
   simp only [Sem.run_pure, Result.andThen_ok]
   exact ih
  ·have hb : (f.name != "_") = true := by simpa using hn
   simp only [hb] at h
   obtain ⟨h2, _⟩ := h
   split at h2
   ·rename_i i hi
    split at h2
    ·rename_i a ha
     obtain ⟨u, hu', hu⟩ := field_ok hD hi hk ha w
     have hc := hgo f.type a u hu' h2
     rw [if_pos hn]
     simp only [Sem.run_bind, hu, hc, Sem.run_pure, Result.andThen_ok]
     exact ih
    ·simp at h2
   ·simp at h2
theorem keyN_at (em : Bool) (w : World) : ∀ (n : Nat) {kt : TypeId} {k : AV} {kv : Value} (m : Nat), VR φ k kv → keyN D n kt k = true → (Instr.checkKey em (n + m) kt kv).run P w = .ok () w
 | 0, kt, k, kv, m, hk, h => by simp [keyN] at h
 | n + 1, kt, k, kv, m, hk, h => by
  have ih := fun (t : TypeId) (a : AV) (v : Value) (hv : VR φ a v) (ha : keyN D n t a = true) => keyN_at em w n m hv ha
  rw [show n + 1 + m = (n + m) + 1 by omega]
  unfold keyN at h
  split at h
  ·rename_i i hi
   obtain ⟨d, h1, h2, h3⟩ := run_under hD hi w
   rw [h2] at h
   cases d <;> simp only [tdOf] at h
   case bool => simp [Instr.checkKey, h3]
   case int => simp [Instr.checkKey, h3]
   case string => simp [Instr.checkKey, h3]
   case pointer => simp [Instr.checkKey, h3]
   case struct fs =>
    split at h <;> first | contradiction | skip
    ·rename_i fs' cs hfs
     simp at hfs
     subst hfs
     cases hk with
     | agg hx =>
      have := checkKey_fields hD (.agg hx) em (n + m) w ih fs.toList h
      rw [Instr.checkKey.eq_def]
      simp only [Sem.run_bind, h3, Result.andThen_ok]
      rw [← Array.forIn_toList]
      have e : ∀ r : Result PUnit, (r.andThen fun _ w' => (Result.ok () w' : Result Unit)) = r := fun r => by cases r <;> rfl
      first | exact this | (simp only [Sem.run_pure]; rw [e]; exact this)
   all_goals (first | (simp at h; done) | (split at h <;> first | contradiction | (simp at h; done)))
  ·simp at h
theorem keyOk_ok {kt : TypeId} {k : AV} {kv : Value} (hk : VR φ k kv) (h : keyOk D kt k = true) (em : Bool) (w : World) : (Instr.checkKey em 10000 kt kv).run P w = .ok () w :=
 keyN_at hD em w 4 9996 hk h
def FR (φ : Phi) : Option (Nat × AV) → Option (Nat × Value) → Prop
 | none, none => True
 | some (i, a), some (j, v) => i = j ∧ VR φ a v
 | _, _ => False
theorem findAsking_ok (hr : Rel φ s w) {kt : TypeId} {k : AV} {kv : Value} (hk : VR φ k kv) : ∀ (es : List (AV × AV × Nat)) (fs : List MapEntry) (i : Nat) (r : Option (Nat × AV)), ER φ es fs → findK D s.h kt k es i = some r →
  ∃ r', FR φ r r' ∧ (Instr.findAsking kt kv fs i).run P w = .ok r' w
 | [], [], i, r, _, h => by simp [findK] at h; subst h; exact ⟨none, trivial, by simp [Instr.findAsking]⟩
 | (k', v, b) :: es, e :: fs, i, r, he, h => by
  obtain ⟨h1, h2, h3, h4⟩ := he
  simp only [findK] at h
  have hq : ∀ q, aeq D s.h depth kt k k' = some q → (Op.equal kt kv e.key).run P w = .ok q w := fun q hq => (aeq_ok hD hr depth).1 kt k k' q kv e.key 10000 hq hk h1 (by unfold depth; omega)
  split at h
  ·rename_i hq'
   split at h
   ·simp at h; subst h
    exact ⟨some (i, e.val), ⟨rfl, h2⟩, by simp [Instr.findAsking, hq _ hq']⟩
   ·simp at h
  ·rename_i hq'
   obtain ⟨r', g1, g2⟩ := findAsking_ok hr hk es fs (i + 1) r h4 h
   exact ⟨r', g1, by simp [Instr.findAsking, hq _ hq', g2]⟩
  ·simp at h
theorem aeq_now (hr : Rel φ s w) {kt : TypeId} {de : TypeDesc} (hu : (underlying kt).run P w = .ok de w) {k k' : AV} {kv kv' : Value} (hk : VR φ k kv) (hk' : VR φ k' kv') {q : Bool} (h : aeq D s.h depth kt k k' = some q) :
  Instr.sameNow de kv kv' = some q ∨ Instr.sameNow de kv kv' = none := by
 have := (aeq_ok hD hr depth).1 kt k k' q kv kv' 10000 h hk hk' (by unfold depth; omega)
 cases hs : Instr.sameNow de kv kv' with
 | none => exact .inr rfl
 | some r =>
  left
  congr 1
  obtain ⟨m, hm⟩ : ∃ m, (10000 : Nat) = m + 1 := ⟨9999, rfl⟩
  rw [hm] at this
  unfold Instr.sameNow at hs
  split at hs
  ·split at hs
   ·rename_i hkk
    subst hkk
    simp at hs
    subst hs
    simpa [Op.equalIn, hu] using this
   ·simp at hs
  ·simp at hs
   subst hs
   simpa [Op.equalIn, hu] using this
  ·simp at hs
   subst hs
   simpa [Op.equalIn, hu] using this
  ·simp at hs
theorem findNow_ok (hr : Rel φ s w) {kt : TypeId} {de : TypeDesc} (hu : (underlying kt).run P w = .ok de w) {k : AV} {kv : Value} (hk : VR φ k kv) : ∀ (es : List (AV × AV × Nat)) (fs : List MapEntry) (i : Nat) (r : Option (Nat × AV)), ER φ es fs → findK D s.h kt k es i = some r →
  (∃ r', FR φ r r' ∧ Instr.findNow de kv fs i = some r') ∨ Instr.findNow de kv fs i = none
 | [], [], i, r, _, h => by simp [findK] at h; subst h; exact .inl ⟨none, trivial, by simp [Instr.findNow]⟩
 | (k', v, b) :: es, e :: fs, i, r, he, h => by
  obtain ⟨h1, h2, h3, h4⟩ := he
  simp only [findK] at h
  split at h
  ·rename_i hq'
   split at h
   ·simp at h; subst h
    rcases aeq_now hD hr hu hk h1 hq' with hn | hn
    ·exact .inl ⟨some (i, e.val), ⟨rfl, h2⟩, by simp [Instr.findNow, hn]⟩
    ·exact .inr (by simp [Instr.findNow, hn])
   ·simp at h
  ·rename_i hq'
   rcases aeq_now hD hr hu hk h1 hq' with hn | hn
   ·rcases findNow_ok hr hu hk es fs (i + 1) r h4 h with ⟨r', g1, g2⟩ | g
    ·exact .inl ⟨r', g1, by simp [Instr.findNow, hn, g2]⟩
    ·exact .inr (by simp [Instr.findNow, hn, g])
   ·exact .inr (by simp [Instr.findNow, hn])
  ·simp at h
theorem findKey_ok (hr : Rel φ s w) {kt : TypeId} {i0 : TyI} (hi : D.ty.get kt = some i0) {k : AV} {kv : Value} (hk : VR φ k kv) {es : List (AV × AV × Nat)} {fs : List MapEntry} {r : Option (Nat × AV)} (he : ER φ es fs)
  (h : findK D s.h kt k es 0 = some r) : ∃ r', FR φ r r' ∧ (Instr.findKey kt kv fs).run P w = .ok r' w := by
 obtain ⟨de, _, _, hu⟩ := run_under hD hi w
 rcases findNow_ok hD hr hu hk es fs 0 r he h with ⟨r', g1, g2⟩ | g
 ·exact ⟨r', g1, by simp [Instr.findKey, hu, g2]⟩
 ·obtain ⟨r', g1, g2⟩ := findAsking_ok hD hr hk es fs 0 r he h
  exact ⟨r', g1, by simp [Instr.findKey, hu, g, g2]⟩
omit hD in
theorem findK_at {kt : TypeId} {k : AV} : ∀ (es : List (AV × AV × Nat)) (i j : Nat) (v : AV), findK D s.h kt k es i = some (some (j, v)) → ∃ k' b, i ≤ j ∧ es[j - i]? = some (k', v, b) ∧ geq k k' = true
 | [], i, j, v, h => by simp [findK] at h
 | (k', u, b) :: es, i, j, v, h => by
  simp only [findK] at h
  split at h
  ·split at h
   ·rename_i hg
    simp at h
    obtain ⟨rfl, rfl⟩ := h
    exact ⟨k', b, Nat.le_refl _, by simp, hg⟩
   ·simp at h
  ·obtain ⟨k2, b2, h1, h2, h3⟩ := findK_at es (i + 1) j v h
   refine ⟨k2, b2, by omega, ?_, h3⟩
   rw [show j - i = (j - (i + 1)) + 1 by omega]
   simpa using h2
  ·simp at h
end
end Go.Eng

namespace Go.Eng
variable {P : Program} {D : Tab} {φ : Phi} {s : St} {w : World} {T : PT AV} {ρ : Operand → Value}
theorem Rel.map (h : Rel φ s w) {b : Nat} {es : List (AV × AV × Nat)} {clock : Nat} (hb : s.h.get b = some (.map es clock)) {r sh : Nat} (hr : φ.blk b = some (r, sh)) :
  ∃ fs : Array MapEntry, w.heap[r]? = some (.map fs clock) ∧ ER φ es fs.toList := by
 obtain ⟨r', sh', ro, h1, h2, h3⟩ := h.objN hb (by simp)
 rw [hr] at h1
 simp at h1
 obtain ⟨rfl, rfl⟩ := h1
 cases h3 with
 | map he => exact ⟨_, h2, he⟩
theorem ER.length : ∀ {es : List (AV × AV × Nat)} {fs : List MapEntry}, ER φ es fs → es.length = fs.length
 | [], [], _ => rfl
 | _ :: _, _ :: _, ⟨_, _, _, h⟩ => by simp [ER.length h]
theorem ER.get : ∀ {es : List (AV × AV × Nat)} {fs : List MapEntry}, ER φ es fs → ∀ (i : Nat) (k v : AV) (b : Nat), es[i]? = some (k, v, b) → ∃ e, fs[i]? = some e ∧ VR φ k e.key ∧ VR φ v e.val ∧ e.born = b
 | [], [], _, i, k, v, b, h => by simp at h
 | _ :: es, e :: fs, ⟨h1, h2, h3, h4⟩, i, k, v, b, h => by
  cases i with
  | zero => simp at h; subst h; exact ⟨e, rfl, h1, h2, h3⟩
  | succ i => simp at h; simpa using ER.get h4 i k v b h
theorem ER.snoc : ∀ {es : List (AV × AV × Nat)} {fs : List MapEntry}, ER φ es fs → ∀ {k v : AV} {b : Nat} {e : MapEntry}, VR φ k e.key → VR φ v e.val → e.born = b → ER φ (es ++ [(k, v, b)]) (fs ++ [e])
 | [], [], _, _, _, _, _, h1, h2, h3 => ⟨h1, h2, h3, trivial⟩
 | _ :: _, _ :: _, ⟨g1, g2, g3, g4⟩, _, _, _, _, h1, h2, h3 => ⟨g1, g2, g3, ER.snoc g4 h1 h2 h3⟩
theorem ER.store {v : AV} {key : Value} {val : Value} : ∀ {es : List (AV × AV × Nat)} {fs : List MapEntry} (i : Nat), ER φ es fs → VR φ v val → (∀ e, fs[i]? = some e → e.key = key) →
  ER φ (setVal es i v) (fs.modify i fun e => { e with key, val })
 | [], [], _, _, _, _ => by simp [setVal, ER]
 | (k, u, b) :: es, e :: fs, 0, ⟨h1, h2, h3, h4⟩, hv, hk => by
  have := hk e rfl
  subst this
  exact ⟨h1, hv, h3, h4⟩
 | (k, u, b) :: es, e :: fs, i + 1, ⟨h1, h2, h3, h4⟩, hv, hk => by
  simp only [setVal, List.modify_succ_cons]
  exact ⟨h1, h2, h3, ER.store i h4 hv (fun e' he => hk e' (by simpa using he))⟩
theorem ER.touch {key : Value} : ∀ {es : List (AV × AV × Nat)} {fs : List MapEntry} (i : Nat), ER φ es fs → (∀ e, fs[i]? = some e → e.key = key) → ER φ es (fs.modify i fun e => { e with key })
 | [], [], _, _, _ => by simp [ER]
 | (k, u, b) :: es, e :: fs, 0, ⟨h1, h2, h3, h4⟩, hk => by
  have := hk e rfl
  subst this
  exact ⟨h1, h2, h3, h4⟩
 | (k, u, b) :: es, e :: fs, i + 1, ⟨h1, h2, h3, h4⟩, hk => by
  simp only [List.modify_succ_cons]
  exact ⟨h1, h2, h3, ER.touch i h4 (fun e' he => hk e' (by simpa using he))⟩
theorem ER.erase : ∀ {es : List (AV × AV × Nat)} {fs : List MapEntry} (i : Nat), ER φ es fs → ER φ (eraseAt es i) (fs.eraseIdx i)
 | [], [], _, _ => by simp [eraseAt, ER]
 | _ :: _, _ :: _, 0, ⟨_, _, _, h4⟩ => by simpa [eraseAt] using h4
 | (_, _, _) :: es, e :: fs, i + 1, ⟨h1, h2, h3, h4⟩ => by
  simp only [eraseAt, List.eraseIdx_cons_succ]
  exact ⟨h1, h2, h3, ER.erase i h4⟩
theorem Rel.put_map (h : Rel φ s w) {b : Nat} {es : List (AV × AV × Nat)} {clock : Nat} (hb : s.h.get b = some (.map es clock)) {r sh : Nat} (hr : φ.blk b = some (r, sh)) {es' : List (AV × AV × Nat)} {clock' : Nat} {fs' : Array MapEntry} (he : ER φ es' fs'.toList) :
  ∃ w', (setObj r (.map fs' clock')).run P w = .ok () w' ∧ Stp φ s w φ { s with h := s.h.set b (.map es' clock') } w' ∧ Rel φ { s with h := s.h.set b (.map es' clock') } w' := by
 obtain ⟨fs, h1, h2⟩ := h.map hb hr
 have := h.put_old (b := b) (o := .map es' clock') (ro := .map fs' clock') (by simp [ownB, hb]) hr (.map he) (fun _ _ _ hx => by rw [h1] at hx; simp at hx)
 exact ⟨_, by simp [setObj, Sem.run, h1], this.2, this.1⟩
theorem run_getObj_of {w : World} {r : Nat} {fs : Array MapEntry} {clock : Nat} (h : w.heap[r]? = some (.map fs clock)) : (getObj r).run P w = .ok (.map fs clock) w := by simp [getObj, Sem.run, h]
section
variable (hD : TabOk P D)
include hD
theorem zeroAV_ok {t : TypeId} {v : AV} (h : zeroAV D t = some v) (w : World) : ∃ u, VR φ v u ∧ (zeroValue t).run P w = .ok u w := by
 unfold zeroAV at h
 split at h
 ·rename_i i hi
  obtain ⟨u, h1, h2⟩ := run_zero hD hi h w
  exact ⟨u, constAV_ok h2, h1⟩
 ·simp at h
theorem lookupA_ok (hr : Rel φ s w) {t : TypeId} {m k v : AV} {mv kv : Value} {ok : Bool} (hm : VR φ m mv) (hk : VR φ k kv) (h : lookupA D s t m k ok = some v) :
  ∃ u, VR φ v u ∧ (Instr.lookup t mv kv ok).run P w = .ok u w := by
 unfold lookupA at h
 split at h
 ·rename_i kt et sz by' z0 hd0 hi
  obtain ⟨de, _, hde, hu⟩ := run_under hD hi w
  obtain ⟨kt', et', rfl⟩ : ∃ a b, de = .map a b := by cases de <;> simp [tdOf] at hde; exact ⟨_, _, rfl⟩
  simp [tdOf] at hde
  obtain ⟨rfl, rfl⟩ := hde
  split at h
  ·simp at h
  ·rename_i hko
   simp at hko
   have hmiss : ∀ (w : World) (ei : TyI) (z : AV), D.ty.get et = some ei → ei.zero = some z → ∃ u, VR φ z u ∧ (zeroValue et).run P w = .ok u w := fun w ei z h1 h2 => by
    obtain ⟨u, g1, g2⟩ := run_zero hD h1 h2 w
    exact ⟨u, constAV_ok g2, g1⟩
   have hki : ∃ i0, D.ty.get kt = some i0 := by
    unfold keyOk keyN at hko
    split at hko
    ·exact ⟨_, by assumption⟩
    ·simp at hko
   obtain ⟨i0, hi0⟩ := hki
   split at h
   ·simp at h
   ·rename_i es hes
    have hget : ∃ fs : Array MapEntry, ER φ es fs.toList ∧ (mv = .map none ∧ fs = #[] ∨ ∃ r ck, mv = .map (some r) ∧ (getObj r).run P w = .ok (.map fs ck) w) := by
     unfold entriesA at hes
     split at hes
     ·simp at hes; subst hes; cases hm; exact ⟨#[], trivial, .inl ⟨rfl, rfl⟩⟩
     ·rename_i b
      split at hes
      ·rename_i es' ck hb
       simp at hes
       subst hes
       cases hm with
       | map hrb =>
        obtain ⟨fs, g1, g2⟩ := hr.map hb hrb
        exact ⟨fs, g2, .inr ⟨_, _, rfl, run_getObj_of g1⟩⟩
      ·simp at hes
     ·simp at hes
    obtain ⟨fs, he, hg⟩ := hget
    have hck := keyOk_ok hD hk hko fs.isEmpty w
    split at h
    ·simp at h
    ·rename_i i v' hf
     obtain ⟨r', g1, g2⟩ := findKey_ok hD hr hi0 hk he hf
     obtain ⟨j, u, rfl, g3⟩ : ∃ j u, r' = some (j, u) ∧ VR φ v' u := by
      cases r' with
      | none => simp [FR] at g1
      | some p => obtain ⟨j, u⟩ := p; exact ⟨j, u, rfl, g1.2⟩
     simp at h
     subst h
     refine ⟨if ok then .tuple #[u, .bool true] else u, ?_, ?_⟩
     ·cases ok
      ·simpa using g3
      ·simpa using VR.tuple (.cons g3 (.cons (.bool true) .nil))
     ·rcases hg with ⟨rfl, rfl⟩ | ⟨r, ck, rfl, hg⟩
      ·simp only [Instr.lookup, Sem.run_bind, hu, Result.andThen_ok, hck, g2, Sem.run_pure]
      ·simp only [Instr.lookup, Sem.run_bind, hu, Result.andThen_ok, hg, hck, g2, Sem.run_pure]
    ·rename_i hf
     obtain ⟨r', g1, g2⟩ := findKey_ok hD hr hi0 hk he hf
     obtain rfl : r' = none := by
      cases r' with
      | none => rfl
      | some p => simp [FR] at g1
     split at h
     ·rename_i ei hei
      split at h
      ·rename_i z hz
       obtain ⟨u, u1, u2⟩ := hmiss w ei z hei hz
       simp at h
       subst h
       refine ⟨if ok then .tuple #[u, .bool false] else u, ?_, ?_⟩
       ·cases ok
        ·simpa using u1
        ·simpa using VR.tuple (.cons u1 (.cons (.bool false) .nil))
       ·rcases hg with ⟨rfl, rfl⟩ | ⟨r, ck, rfl, hg⟩
        ·simp only [Instr.lookup, Sem.run_bind, hu, Result.andThen_ok, hck, g2, Sem.run_pure, u2]
        ·simp only [Instr.lookup, Sem.run_bind, hu, Result.andThen_ok, hg, hck, g2, Sem.run_pure, u2]
      ·simp at h
     ·simp at h
 ·simp at h
omit hD in
theorem keyOk_ty {kt : TypeId} {k : AV} (h : keyOk D kt k = true) : ∃ i, D.ty.get kt = some i := by
 unfold keyOk keyN at h
 split at h
 ·exact ⟨_, by assumption⟩
 ·simp at h
omit hD in
theorem FR.none_inv {r : Option (Nat × Value)} (h : FR φ none r) : r = none := by
 cases r with
 | none => rfl
 | some p => simp [FR] at h
omit hD in
theorem FR.some_inv {i : Nat} {v : AV} {r : Option (Nat × Value)} (h : FR φ (some (i, v)) r) : ∃ u, r = some (i, u) ∧ VR φ v u := by
 cases r with
 | none => simp [FR] at h
 | some p =>
  obtain ⟨j, u⟩ := p
  obtain ⟨rfl, h⟩ := h
  exact ⟨u, rfl, h⟩
omit hD in
theorem found_key {kt : TypeId} {k : AV} {kv : Value} (hk : VR φ k kv) {es : List (AV × AV × Nat)} {fs : List MapEntry} (he : ER φ es fs) {i : Nat} {v : AV} (hf : findK D s.h kt k es 0 = some (some (i, v))) :
  ∃ e, fs[i]? = some e ∧ e.key = kv ∧ Instr.sameBits 10000 e.key kv = true := by
 obtain ⟨k', b, _, h2, h3⟩ := findK_at es 0 i v hf
 obtain ⟨e, g1, g2, g3, g4⟩ := he.get i k' v b (by simpa using h2)
 obtain ⟨_, h4⟩ := geq_eq (φ := φ) h3
 obtain ⟨e1, e2⟩ := h4 kv e.key hk g2
 exact ⟨e, g1, e1.symm, e2⟩
theorem mapTy {t kt et : TypeId} {sz by' : Nat} {z0 : Option AV} {hd0 : Bool} (hi : D.ty.get t = some { d := TD.map kt et, size := sz, bytes := by', zero := z0, held := hd0 }) (w : World) :
  (underlying t).run P w = .ok (.map kt et) w := by
 obtain ⟨de, _, hde, hu⟩ := run_under hD hi w
 obtain ⟨kt', et', rfl⟩ : ∃ a b, de = .map a b := by cases de <;> simp [tdOf] at hde; exact ⟨_, _, rfl⟩
 simp [tdOf] at hde
 obtain ⟨rfl, rfl⟩ := hde
 exact hu
theorem mapUpdA_ok (hr : Rel φ s w) {t : TypeId} {m k v : AV} {mv kv vv : Value} {s' : St} (hm : VR φ m mv) (hk : VR φ k kv) (hv : VR φ v vv) (h : mapUpdA D s t m k v = some s') :
  ∃ w', (Instr.mapUpdate t mv kv vv).run P w = .ok () w' ∧ Stp φ s w φ s' w' ∧ Rel φ s' w' := by
 unfold mapUpdA at h
 split at h
 ·rename_i kt et sz by' z0 hd0 b hi
  have hu := mapTy hD hi w
  split at h
  ·simp at h
  ·rename_i hko
   simp at hko
   obtain ⟨i0, hi0⟩ := keyOk_ty hko
   have hck := keyOk_ok hD hk hko false w
   split at h
   ·rename_i es clock hb
    cases hm with
    | map hrb =>
     rename_i r sh
     obtain ⟨fs, g1, g2⟩ := hr.map hb hrb
     split at h
     ·simp at h
     ·rename_i i v' hf
      simp at h
      subst h
      obtain ⟨r', f1, f2⟩ := findKey_ok hD hr hi0 hk g2 hf
      obtain ⟨u, rfl, f3⟩ := f1.some_inv
      obtain ⟨e, e1, e2, e3⟩ := found_key hk g2 hf
      have e1' : fs[i]? = some e := by simpa using e1
      have hks := run_keyThatStays (P := P) (w := w) e3
      have := hr.put_map (P := P) hb hrb (es' := setVal es i v) (clock' := clock) (fs' := fs.modify i fun e => { e with key := kv, val := vv }) (by
       simpa using ER.store i g2 hv (fun e' he' => by rw [e1] at he'; simp at he'; subst he'; exact e2))
      obtain ⟨w', w1, w2, w3⟩ := this
      refine ⟨w', ?_, w2, w3⟩
      simp only [Instr.mapUpdate, Sem.run_bind, hu, Result.andThen_ok, run_getObj_of g1, hck, f2]
      simp only [e1', Option.map_some, Option.getD_some, hks, Result.andThen_ok]
      exact w1
     ·rename_i hf
      simp at h
      subst h
      obtain ⟨r', f1, f2⟩ := findKey_ok hD hr hi0 hk g2 hf
      obtain rfl := f1.none_inv
      have := hr.put_map (P := P) hb hrb (es' := es ++ [(k, v, clock)]) (clock' := clock + 1) (fs' := fs.push { key := kv, val := vv, born := clock }) (by
       simpa using g2.snoc (e := { key := kv, val := vv, born := clock }) hk hv rfl)
      obtain ⟨w', w1, w2, w3⟩ := this
      refine ⟨w', ?_, w2, w3⟩
      simp only [Instr.mapUpdate, Sem.run_bind, hu, Result.andThen_ok, run_getObj_of g1, hck, f2]
      exact w1
   ·simp at h
 ·simp at h
theorem deleteA_ok (hr : Rel φ s w) {t kt et : TypeId} {sz by' : Nat} {z0 : Option AV} {hd0 : Bool} (hi : D.ty.get t = some { d := TD.map kt et, size := sz, bytes := by', zero := z0, held := hd0 })
  {b : Nat} {k : AV} {mv kv : Value} (hm : VR φ (.map b) mv) (hk : VR φ k kv) (hko : keyOk D kt k = true) {es : List (AV × AV × Nat)} {clock : Nat} (hb : s.h.get b = some (.map es clock)) {r : Option (Nat × AV)}
  (hf : findK D s.h kt k es 0 = some r) {ats : Array TypeId} (ha : ats[0]? = some t) (ty : TypeId) :
  let s' : St := match r with | some (i, _) => { s with h := s.h.set b (.map (eraseAt es i) clock) } | none => { s with h := s.h.set b (.map es clock) }
  ∃ w', (Builtin.delete_ ats ty #[mv, kv]).run P w = .ok (.tuple #[]) w' ∧ Stp φ s w φ s' w' ∧ Rel φ s' w' := by
 have hu := mapTy hD hi w
 obtain ⟨i0, hi0⟩ := keyOk_ty hko
 cases hm with
 | map hrb =>
  rename_i rr sh
  obtain ⟨fs, g1, g2⟩ := hr.map hb hrb
  have hck := keyOk_ok hD hk hko fs.isEmpty w
  obtain ⟨r', f1, f2⟩ := findKey_ok hD hr hi0 hk g2 hf
  cases r with
  | none =>
   obtain rfl := f1.none_inv
   obtain ⟨w', w1, w2, w3⟩ := hr.put_map (P := P) hb hrb (es' := es) (clock' := clock) (fs' := fs) g2
   exact ⟨w', by simp [Builtin.delete_, ha, hu, run_getObj_of g1, hck, f2, w1], w2, w3⟩
  | some p =>
   obtain ⟨i, v⟩ := p
   obtain ⟨u, rfl, f3⟩ := f1.some_inv
   obtain ⟨w', w1, w2, w3⟩ := hr.put_map (P := P) hb hrb (es' := eraseAt es i) (clock' := clock) (fs' := fs.eraseIdxIfInBounds i) (by
    have := g2.erase i
    have e : (fs.eraseIdxIfInBounds i).toList = fs.toList.eraseIdx i := by simp [Array.toList_eraseIdxIfInBounds]
    rw [e]; exact this)
   exact ⟨w', by simp [Builtin.delete_, ha, hu, run_getObj_of g1, hck, f2, w1], w2, w3⟩
end
end Go.Eng

namespace Go.Eng
variable {P : Program} {D : Tab} {φ : Phi} {s : St} {w : World} {T : PT AV} {ρ : Operand → Value}
theorem ER.setBorn {x : AV} {xv : Value} (hx : VR φ x xv) : ∀ {es es' : List (AV × AV × Nat)} {fs : List MapEntry} {n : Nat}, ER φ es fs → setBorn es n x = some es' →
  ∃ i, fs.findIdx? (fun e => (e.born : Int) == (n : Int)) = some i ∧ ER φ es' (fs.modify i fun e => { e with val := xv })
 | [], es', [], n, _, h => by simp [Eng.setBorn] at h
 | (k, u, b) :: es, es', e :: fs, n, ⟨h1, h2, h3, h4⟩, h => by
  simp only [Eng.setBorn] at h
  split at h
  ·rename_i hb
   have := beq_true hb
   simp at h
   subst h
   refine ⟨0, ?_, h1, hx, h3, h4⟩
   simp [List.findIdx?_cons, h3, this]
  ·rename_i hb
   split at h
   ·rename_i l hl
    simp at h
    subst h
    obtain ⟨i, g1, g2⟩ := ER.setBorn hx h4 hl
    have hne : ¬ ((e.born : Int) = (n : Int)) := by
     intro hc
     have : b = n := by omega
     subst this
     simp at hb
    refine ⟨i + 1, ?_, ?_⟩
    ·simp [List.findIdx?_cons, hne, g1]
    ·simp only [List.modify_succ_cons]
     exact ⟨h1, h2, h3, g2⟩
   ·simp at h
theorem entryStoreA_ok (hr : Rel φ s w) {t : TypeId} {m st x : AV} {mv sv xv : Value} {s' : St} (hm : VR φ m mv) (hs : VR φ st sv) (hx : VR φ x xv) (h : entryStoreA s m st x = some s') :
  ∃ w', (Instr.entryStore t mv sv xv).run P w = .ok () w' ∧ Stp φ s w φ s' w' ∧ Rel φ s' w' := by
 unfold entryStoreA at h
 split at h
 ·rename_i b k n
  split at h
  ·rename_i es clock hb
   split at h
   ·rename_i hn
    split at h
    ·rename_i es' he
     simp at h
     subst h
     cases hm with
     | map hrb =>
      cases hs
      obtain ⟨fs, g1, g2⟩ := hr.map hb hrb
      obtain ⟨i, f1, f2⟩ := g2.setBorn hx he
      have hnn : ((n.toNat : Nat) : Int) = n := by omega
      rw [hnn] at f1
      obtain ⟨w', w1, w2, w3⟩ := hr.put_map (P := P) hb hrb (es' := es') (clock' := clock) (fs' := fs.modify i fun e => { e with val := xv }) (by simpa using f2)
      refine ⟨w', ?_, w2, w3⟩
      have f1' : fs.findIdx? (fun e => (e.born : Int) == n) = some i := by
       obtain ⟨l⟩ := fs
       simpa using f1
      simp [Instr.entryStore, run_getObj_of g1, asInt, asIntOf, f1', w1]
    ·simp at h
   ·simp at h
  ·simp at h
 ·simp at h
section
variable (hD : TabOk P D)
include hD
theorem mapEntryA_ok (hr : Rel φ s w) {t : TypeId} {m k v : AV} {mv kv : Value} {s' : St} (hm : VR φ m mv) (hk : VR φ k kv) (h : mapEntryA D s t m k = some (v, s')) :
  ∃ u w', VR φ v u ∧ (Instr.mapEntry t mv kv).run P w = .ok u w' ∧ Stp φ s w φ s' w' ∧ Rel φ s' w' := by
 unfold mapEntryA at h
 split at h
 ·rename_i kt et sz by' z0 hd0 b hi
  have hu := mapTy hD hi w
  split at h
  ·simp at h
  ·rename_i hko
   simp at hko
   obtain ⟨i0, hi0⟩ := keyOk_ty hko
   have hck := keyOk_ok hD hk hko false w
   split at h
   ·rename_i es clock hb
    cases hm with
    | map hrb =>
     rename_i r sh
     obtain ⟨fs, g1, g2⟩ := hr.map hb hrb
     split at h
     ·simp at h
     ·rename_i i v' hf
      split at h
      ·rename_i k0 v0 born hei
       simp at h
       obtain ⟨rfl, rfl⟩ := h
       obtain ⟨r', f1, f2⟩ := findKey_ok hD hr hi0 hk g2 hf
       obtain ⟨u, rfl, f3⟩ := f1.some_inv
       obtain ⟨e, e1, e2, e3⟩ := found_key hk g2 hf
       obtain ⟨e', d1, _, _, d4⟩ := g2.get i k0 v0 born hei
       rw [e1] at d1
       simp at d1
       subst d1
       have e1' : fs[i]? = some e := by simpa using e1
       have hks := run_keyThatStays (P := P) (w := w) e3
       obtain ⟨w', w1, w2, w3⟩ := hr.put_map (P := P) hb hrb (es' := es) (clock' := clock) (fs' := fs.modify i fun e => { e with key := kv }) (by
        simpa using ER.touch i g2 (fun e' he' => by rw [e1] at he'; simp at he'; subst he'; exact e2))
       have hself : Rel φ s w' := by
        constructor
        ·intro c x hc
         have : (s.h.set b (.map es clock)).get c = some x := by
          rw [PT.get_set]
          by_cases e : c = b
          ·subst e; rw [hb] at hc; simpa using hc
          ·rw [if_neg e]; exact hc
         exact w3.obj c x this
        ·intro c c' r1 s1 s2 h1 h2 h3 h4
         refine w3.inj c c' r1 s1 s2 ?_ ?_ h3 h4
         ·rw [PT.get_set]; split
          ·rfl
          ·exact h1
         ·rw [PT.get_set]; split
          ·rfl
          ·exact h2
        ·exact w3.fresh
        ·exact w3.freshc
        ·exact w3.glob
        ·exact w3.gnx
        ·exact w3.facts
       have hstp : Stp φ s w φ s w' := by
        constructor
        ·exact w2.ext
        ·intro c r1 s1 h1 h2
         refine w2.own c r1 s1 ?_ h2
         rw [PT.get_set]; split
         ·rfl
         ·exact h1
        ·intro c r1 s1 h1 h2
         refine w2.owb c r1 s1 ?_ h2
         rw [ownB.eq (h := s.h) (b := c) (by simp only [PT.get_set]; split <;> simp_all)]; exact h1
        ·exact w2.keep
        ·exact w2.size
        ·exact w2.os
        ·exact w2.out
        ·exact w2.tape
        ·exact Nat.le_refl _
        ·exact Nat.le_refl _
        ·exact fun _ _ => rfl
        ·exact w2.shape
        ·exact w2.dr
       refine ⟨_, w', .tuple (.cons f3 (.cons (.int .i64 _) .nil)), ?_, hstp, hself⟩
       simp only [Instr.mapEntry, Sem.run_bind, hu, Result.andThen_ok, run_getObj_of g1, hck, f2]
       simp only [e1', Option.map_some, Option.getD_some, hks, Result.andThen_ok, w1, Sem.run_pure, goInt, d4]
      ·simp at h
     ·rename_i hf
      split at h
      ·rename_i z hz
       simp at h
       obtain ⟨rfl, rfl⟩ := h
       obtain ⟨r', f1, f2⟩ := findKey_ok hD hr hi0 hk g2 hf
       obtain rfl := f1.none_inv
       obtain ⟨u, u1, u2⟩ := zeroAV_ok (φ := φ) hD hz w
       obtain ⟨w', w1, w2, w3⟩ := hr.put_map (P := P) hb hrb (es' := es ++ [(k, z, clock)]) (clock' := clock + 1) (fs' := fs.push { key := kv, val := u, born := clock }) (by
        simpa using g2.snoc (e := { key := kv, val := u, born := clock }) hk u1 rfl)
       refine ⟨_, w', .tuple (.cons u1 (.cons (.int .i64 _) .nil)), ?_, w2, w3⟩
       simp only [Instr.mapEntry, Sem.run_bind, hu, Result.andThen_ok, run_getObj_of g1, hck, f2, u2, w1, Sem.run_pure, goInt]
      ·simp at h
   ·simp at h
 ·simp at h
end
theorem Rel.iter (h : Rel φ s w) {b : Nat} {m : Option Nat} {since : Nat} {seen : List Nat} {st : Nat} (hb : s.h.get b = some (.iter m since seen st)) {r sh : Nat} (hr : φ.blk b = some (r, sh)) :
  sh = 0 ∧ ∃ mr, w.heap[r]? = some (.mapIter mr since seen.toArray st) ∧ (match m, mr with | none, none => True | some m, some x => ∃ sm, φ.blk m = some (x, sm) | _, _ => False) := by
 obtain ⟨r', sh', ro, h1, h2, h3⟩ := h.objN hb (by simp)
 rw [hr] at h1
 simp at h1
 obtain ⟨rfl, rfl⟩ := h1
 cases h3 with
 | iter0 => exact ⟨rfl, none, h2, trivial⟩
 | iter1 hm => exact ⟨rfl, some _, h2, ⟨_, hm⟩⟩
theorem lastN_back : ∀ {l : List Nat} {x : Nat}, lastN l = some x → l.toArray.back? = some x
 | [], x, h => by simp [lastN] at h
 | [a], x, h => by simp [lastN] at h; subst h; simp
 | a :: b :: r, x, h => by
  simp only [lastN] at h
  have := lastN_back h
  simpa using this
theorem ER.findBorn : ∀ {es : List (AV × AV × Nat)} {fs : List MapEntry} {n : Nat} {v : AV}, ER φ es fs → findBorn es n = some v → ∃ e, fs.find? (fun e => e.born == n) = some e ∧ VR φ v (.tuple #[e.key, e.val])
 | [], [], n, v, _, h => by simp [Eng.findBorn] at h
 | (k, u, b) :: es, e :: fs, n, v, ⟨h1, h2, h3, h4⟩, h => by
  simp only [Eng.findBorn] at h
  split at h
  ·rename_i hb
   have := beq_true hb
   simp at h
   subst h
   exact ⟨e, by simp [h3, this], by simpa using VR.tuple (.cons h1 (.cons h2 .nil))⟩
  ·rename_i hb
   obtain ⟨e', g1, g2⟩ := ER.findBorn h4 h
   refine ⟨e', ?_, g2⟩
   have : ¬ e.born = n := by
    intro hc
    subst h3; subst hc
    simp at hb
   simp [this, g1]
theorem entryA_ok (hr : Rel φ s w) {it v : AV} {iv : Value} (hi : VR φ it iv) (h : entryA s it = some v) : ∃ u, VR φ v u ∧ (Instr.entry iv).run P w = .ok u w := by
 unfold entryA at h
 split at h
 ·rename_i r
  cases hi with
  | ptr hrb =>
   rename_i rr sh
   split at h
   ·rename_i m since seen stepped hit
    obtain ⟨rfl, mr, g1, g2⟩ := hr.iter hit hrb
    split at h
    ·rename_i es clock stamp hm hl
     split at h
     ·rename_i hck
      have := beq_true hck
      subst this
      cases mr with
      | none => simp at g2
      | some x =>
       obtain ⟨sm, g2⟩ := g2
       obtain ⟨fs, f1, f2⟩ := hr.map hm g2
       obtain ⟨e, e1, e2⟩ := f2.findBorn h
       have hb := lastN_back hl
       have e1' : fs.find? (fun e => e.born == stamp) = some e := by simpa using e1
       refine ⟨_, e2, ?_⟩
       simp only [Instr.entry, Sem.run_bind, getObj, Sem.run, g1, Result.andThen_ok, hb, f1]
       simp [e1']
     ·simp at h
    ·simp at h
   ·simp at h
 ·simp at h
theorem rmBorn_iff : ∀ (l : List Nat) (n : Nat), rmBorn l n = l.toArray.contains n
 | [], n => by simp [rmBorn]
 | x :: r, n => by
  simp only [rmBorn, rmBorn_iff r n]
  rw [Bool.eq_iff_iff]
  simp
  constructor
  ·rintro (h | h)
   ·exact .inl h.symm
   ·exact .inr h
  ·rintro (h | h)
   ·exact .inl h.symm
   ·exact .inr h
theorem ER.filter (p : Nat → Bool) : ∀ {es : List (AV × AV × Nat)} {fs : List MapEntry}, ER φ es fs → ER φ (es.filter fun e => p e.2.2) (fs.filter fun e => p e.born)
 | [], [], _ => by simp [ER]
 | (k, u, b) :: es, e :: fs, ⟨h1, h2, h3, h4⟩ => by
  subst h3
  by_cases hp : p e.born = true
  ·simp only [List.filter_cons, hp, if_true]
   exact ⟨h1, h2, rfl, ER.filter p h4⟩
  ·simp only [List.filter_cons, hp]
   exact ER.filter p h4
theorem ER.append : ∀ {es es' : List (AV × AV × Nat)} {fs fs' : List MapEntry}, ER φ es fs → ER φ es' fs' → ER φ (es ++ es') (fs ++ fs')
 | [], _, [], _, _, h => h
 | _ :: _, _, _ :: _, _, ⟨h1, h2, h3, h4⟩, h => ⟨h1, h2, h3, h4.append h⟩
theorem ER.all (p : Nat → Bool) : ∀ {es : List (AV × AV × Nat)} {fs : List MapEntry}, ER φ es fs → es.all (fun e => p e.2.2) = fs.all (fun e => p e.born)
 | [], [], _ => rfl
 | (k, u, b) :: es, e :: fs, ⟨h1, h2, h3, h4⟩ => by
  subst h3
  simp only [List.all_cons, ER.all p h4]
theorem Rel.drawn (h : Rel φ s w) (n : Nat) : Rel φ s { w with drawn := n } := ⟨h.obj, h.inj, h.fresh, h.freshc, h.glob, h.gnx, h.facts⟩
theorem Stp.drawn (φ : Phi) (s : St) (w : World) (n : Nat) (hn : w.drawn ≤ n) : Stp φ s w φ s { w with drawn := n } :=
 ⟨Phi.le.rfl' φ, fun b _ sh h h' => .inr ⟨b, sh, h, h'⟩, fun b _ sh h h' => .inr ⟨b, sh, h, h'⟩, fun _ _ _ => rfl, Nat.le_refl _, rfl, rfl, rfl, Nat.le_refl _, Nat.le_refl _, fun _ _ => rfl, fun _ arr _ fz h => ⟨arr, fz, h, rfl⟩, fun _ => hn⟩
theorem choose_next (n : Nat) (hn : 0 < n) (w : World) : ∃ k d, k < n ∧ (choose (.mapNext n)).run P w = .ok k { w with drawn := d } ∧ w.drawn ≤ d := by
 by_cases h : n ≤ 1
 ·exact ⟨0, w.drawn, by omega, by simp [Question.forced, h], Nat.le_refl _⟩
 ·refine ⟨w.tape w.drawn (.mapNext n) % n, w.drawn + 1, Nat.mod_lt _ hn, ?_, Nat.le_succ _⟩
  simp [Question.forced, Question.cut, h]
theorem ble_dec (a b : Nat) : Nat.ble a b = decide (a ≤ b) := by rw [Bool.eq_iff_iff]; simp [Nat.ble_eq]
theorem blt_dec (a b : Nat) : Nat.blt a b = decide (a < b) := by rw [Bool.eq_iff_iff]; simp [Nat.blt, Nat.ble_eq, Nat.lt_iff_add_one_le]
theorem next_pick (hr : Rel φ s w) {r rr m since last x sm clock : Nat} {seen : List Nat} {old new : List (AV × AV × Nat)} {l : List MapEntry} {outs : List (AV × St)} (hit : s.h.get r = some (.iter (some m) since seen last)) (hrb : φ.blk r = some (rr, 0))
  (g1 : w.heap[rr]? = some (.mapIter (some x) since seen.toArray last)) (g2 : φ.blk m = some (x, sm)) (f1 : w.heap[x]? = some (.map ⟨l⟩ clock))
  (hold : ER φ old ((l.filter fun e => !seen.toArray.contains e.born).filter (·.born < since))) (hnew : ER φ new ((l.filter fun e => !seen.toArray.contains e.born).filter (·.born ≥ since)))
  (hgo : (!seen.toArray.isEmpty && !(⟨l⟩ : Array MapEntry).isEmpty && (⟨l⟩ : Array MapEntry).all (·.born ≥ last)) = false)
  (h : (if old.isEmpty then [(.tuple [.bool false], s)] else []) ++ (old ++ new).map (stepTo s r m since seen clock) = outs) (ty : TypeId) :
  ∃ v s', (v, s') ∈ outs ∧ ∃ u w', (Instr.next (.pointer (some ⟨rr, 0 + 0, none⟩)) false ty).run P w = .ok u w' ∧ VR φ v u ∧ Stp φ s w φ s' w' ∧ Rel φ s' w' := by
 generalize hlo : (l.filter fun e => !seen.toArray.contains e.born).filter (·.born < since) = lo at hold
 generalize hln : (l.filter fun e => !seen.toArray.contains e.born).filter (·.born ≥ since) = ln at hnew
 have hcand : ((if ((((⟨l⟩ : Array MapEntry).filter fun e => !seen.toArray.contains e.born).filter (·.born < since)).isEmpty) then #[none] else #[]) ++
   ((((⟨l⟩ : Array MapEntry).filter fun e => !seen.toArray.contains e.born).filter (·.born < since)) ++ (((⟨l⟩ : Array MapEntry).filter fun e => !seen.toArray.contains e.born).filter (·.born ≥ since))).map some : Array (Option MapEntry)) =
   ⟨(if lo.isEmpty then [none] else []) ++ (lo ++ ln).map some⟩ := by
  simp only [List.filter_toArray, hlo, hln]
  cases lo <;> simp
 have hsz : 0 < ((if lo.isEmpty then [none] else []) ++ (lo ++ ln).map some : List (Option MapEntry)).length := by
  cases lo <;> simp
 obtain ⟨k, d, hk, hch, hdd⟩ := choose_next (P := P) _ hsz w
 have hlen := hold.length
 have hlen2 := hnew.length
 have hrun : ∀ c, ((if lo.isEmpty then [none] else []) ++ (lo ++ ln).map some : List (Option MapEntry))[k]? = some c →
   (Instr.next (.pointer (some ⟨rr, 0 + 0, none⟩)) false ty).run P w = (match c with
    | some e => (do setObj rr (.mapIter (some x) since (seen.toArray.push e.born) clock); pure (.tuple #[.bool true, e.key, e.val]) : Sem Value)
    | none => pure (.tuple #[.bool false])).run P { w with drawn := d } := by
  intro c hc
  have hgo1 : ¬ ((!seen.toArray.isEmpty && !(⟨l⟩ : Array MapEntry).isEmpty && (⟨l⟩ : Array MapEntry).all (·.born ≥ last)) = true) := by rw [hgo]; simp
  simp only [Instr.next, Nat.add_zero, Sem.run_bind, getObj, Sem.run, g1, Result.andThen_ok, f1]
  rw [if_neg hgo1]
  rw [hcand]
  simp only [Array.size] at hch ⊢
  rw [Sem.run_bind, hch]
  simp only [Result.andThen_ok, List.getElem?_toArray, hc]
  cases c <;> rfl
 have hd := hr.drawn d
 have hs := Stp.drawn φ s w d hdd
 subst h
 by_cases hover : lo = [] ∧ k = 0
 ·obtain ⟨rfl, rfl⟩ := hover
  have : old = [] := by cases old <;> simp_all
  subst this
  refine ⟨_, _, List.mem_append_left _ (List.mem_singleton.2 rfl), _, _, ?_, .tuple (.cons (.bool false) .nil), hs, hd⟩
  rw [hrun none (by simp)]
  rfl
 ·-- an entry
  have : ∃ (i : Nat) (e : MapEntry) (a : AV × AV × Nat), (lo ++ ln)[i]? = some e ∧ (old ++ new)[i]? = some a ∧ VR φ a.1 e.key ∧ VR φ a.2.1 e.val ∧ e.born = a.2.2 ∧ ((if lo.isEmpty then [none] else []) ++ (lo ++ ln).map some : List (Option MapEntry))[k]? = some (some e) := by
   have hboth := hold.append hnew
   have hlb := hboth.length
   by_cases hl0 : lo = []
   ·subst hl0
    have hk0 : k ≠ 0 := fun h => hover ⟨rfl, h⟩
    obtain ⟨i, rfl⟩ : ∃ i, k = i + 1 := ⟨k - 1, by omega⟩
    simp at hk
    have h2 : i < (old ++ new).length := by rw [hlb]; simpa using hk
    obtain ⟨e, e1, e2, e3, e4⟩ := hboth.get i (old ++ new)[i].1 (old ++ new)[i].2.1 (old ++ new)[i].2.2 (List.getElem?_eq_getElem h2)
    refine ⟨i, e, (old ++ new)[i], e1, List.getElem?_eq_getElem h2, e2, e3, e4, ?_⟩
    simp at e1 ⊢
    exact e1
   ·have hne : lo.isEmpty = false := by cases lo <;> simp_all
    simp [hne] at hk
    have h2 : k < (old ++ new).length := by rw [hlb]; simpa using hk
    obtain ⟨e, e1, e2, e3, e4⟩ := hboth.get k (old ++ new)[k].1 (old ++ new)[k].2.1 (old ++ new)[k].2.2 (List.getElem?_eq_getElem h2)
    refine ⟨k, e, (old ++ new)[k], e1, List.getElem?_eq_getElem h2, e2, e3, e4, ?_⟩
    simp only [hne, Bool.false_eq_true, if_false, List.nil_append, List.getElem?_map, e1]
    rfl
  obtain ⟨i, e, a, h1, h2, h3, h4, h5, h6⟩ := this
  have hput := hd.put_old (b := r) (r := rr) (sh := 0) (o := .iter (some m) since (seen ++ [a.2.2]) clock) (ro := .mapIter (some x) since (seen ++ [a.2.2]).toArray clock) (by simp [ownB, hit]) hrb (.iter1 g2 _ _ _) (fun _ _ _ hx => by rw [g1] at hx; simp at hx)
  refine ⟨_, _, List.mem_append_right _ (List.mem_map.2 ⟨a, List.mem_of_getElem? h2, rfl⟩), .tuple #[.bool true, e.key, e.val], _, ?_, .tuple (.cons (.bool true) (.cons h3 (.cons h4 .nil))), hs.trans hput.2, hput.1⟩
  rw [hrun _ h6]
  simp [setObj, Sem.run, g1, h5]
theorem nextA_ok (hr : Rel φ s w) {it : AV} {iv : Value} {str : Bool} {outs : List (AV × St)} (hi : VR φ it iv) (h : nextA s it str = some outs) (ty : TypeId) :
  ∃ v s', (v, s') ∈ outs ∧ ∃ u w', (Instr.next iv str ty).run P w = .ok u w' ∧ VR φ v u ∧ Stp φ s w φ s' w' ∧ Rel φ s' w' := by
 unfold nextA at h
 split at h
 ·rename_i r
  cases hi with
  | ptr hrb =>
   rename_i rr sh
   split at h
   ·rename_i since seen st hit
    obtain ⟨rfl, mr, g1, g2⟩ := hr.iter hit hrb
    cases mr with
    | some x => simp at g2
    | none =>
     simp at h
     subst h
     refine ⟨_, _, List.mem_singleton.2 rfl, _, w, ?_, .tuple (.cons (.bool false) .nil), Stp.refl _ _ _, hr⟩
     simp [Instr.next, getObj, Sem.run, g1]
   ·rename_i m since seen last hit
    obtain ⟨rfl, mr, g1, g2⟩ := hr.iter hit hrb
    cases mr with
    | none => simp at g2
    | some x =>
     obtain ⟨sm, g2⟩ := g2
     split at h
     ·rename_i es clock hm
      obtain ⟨fs, f1, f2⟩ := hr.map hm g2
      split at h
      ·simp at h
      ·rename_i hgo
       simp only [Option.some.injEq] at h
       obtain ⟨l⟩ := fs
       simp only at f2
       have hgo' : (!seen.toArray.isEmpty && !(⟨l⟩ : Array MapEntry).isEmpty && (⟨l⟩ : Array MapEntry).all (·.born ≥ last)) = false := by
        simp only [Bool.not_eq_true] at hgo
        rw [← hgo]
        have hall := f2.all (fun n => Nat.ble last n)
        have hlen := f2.length
        have e1 : (!(⟨l⟩ : Array MapEntry).isEmpty) = !es.isEmpty := by
         cases es <;> cases l <;> simp_all
        have e2 : (⟨l⟩ : Array MapEntry).all (·.born ≥ last) = es.all fun e => last.ble e.2.2 := by
         rw [hall]
         simp only [List.all_toArray]
         congr 1
         exact funext fun e => (ble_dec last e.born).symm
        rw [e1, e2]
        simp
       have hold : ER φ (oldOf seen since es) ((l.filter fun e => !seen.toArray.contains e.born).filter (·.born < since)) := by
        have := (f2.filter (fun n => !rmBorn seen n)).filter (fun n => Nat.blt n since)
        unfold oldOf
        rw [show (fun e : MapEntry => decide (e.born < since)) = fun e => Nat.blt e.born since from funext fun e => (blt_dec e.born since).symm,
         show (fun e : MapEntry => !seen.toArray.contains e.born) = fun e => !rmBorn seen e.born from funext fun e => by rw [rmBorn_iff]]
        exact this
       have hnew : ER φ (newOf seen since es) ((l.filter fun e => !seen.toArray.contains e.born).filter (·.born ≥ since)) := by
        have := (f2.filter (fun n => !rmBorn seen n)).filter (fun n => Nat.ble since n)
        unfold newOf
        rw [show (fun e : MapEntry => decide (e.born ≥ since)) = fun e => Nat.ble since e.born from funext fun e => (ble_dec since e.born).symm,
         show (fun e : MapEntry => !seen.toArray.contains e.born) = fun e => !rmBorn seen e.born from funext fun e => by rw [rmBorn_iff]]
        exact this
       exact next_pick hr hit hrb g1 g2 f1 hold hnew hgo' h ty
     ·simp at h
   ·simp at h
 ·simp at h
end Go.Eng

namespace Go.Eng
variable {P : Program} {D : Tab} {φ : Phi} {s : St} {w : World} {T : PT AV} {ρ : Operand → Value}
theorem foldl_set : ∀ (vs : List Value) (j off : Nat) (us : List Value), off + j + vs.length ≤ us.length →
  (vs.zipIdx j).foldl (fun cs (x : Value × Nat) => cs.setIfInBounds (off + x.2) x.1) us.toArray = (us.take (off + j) ++ vs ++ us.drop (off + j + vs.length)).toArray
 | [], j, off, us, _ => by simp
 | v :: vs, j, off, us, h => by
  simp at h
  simp only [List.zipIdx_cons, List.foldl_cons]
  have e : us.toArray.setIfInBounds (off + j) v = (us.set (off + j) v).toArray := by simp
  rw [e, foldl_set vs (j + 1) off _ (by simp; omega)]
  have := list_seg_step us (off + j) v vs (by omega)
  simp only [List.length_cons] at this ⊢
  rw [show off + (j + 1) = off + j + 1 by omega, this]
theorem fillP_ok {pl : List (Nat × Nat)} {place : Nat → Option (Nat × Nat)} (hpl : ∀ i x, pl[i]? = some x → place i = some x) : ∀ (ps : List (Nat × AV)) (qs : List (Nat × Value)) (cells : List AV) (us : List Value) (cs : List AV),
  VRs φ cells us → ps.map (·.1) = qs.map (·.1) → VRs φ (ps.map (·.2)) (qs.map (·.2)) → fillP pl cells ps = some cs → ∃ us', Instr.fill place us.toArray qs = some us'.toArray ∧ VRs φ cs us'
 | [], [], cells, us, cs, hc, _, _, h => by simp [fillP] at h; subst h; exact ⟨us, by simp [Instr.fill], hc⟩
 | [], _ :: _, _, _, _, _, h, _, _ => by simp at h
 | _ :: _, [], _, _, _, _, h, _, _ => by simp at h
 | (i, v) :: ps, (i', u) :: qs, cells, us, cs, hc, hi, hv, h => by
  simp at hi
  obtain ⟨rfl, hi⟩ := hi
  cases hv with
  | cons hv hvs =>
   simp only [fillP] at h
   split at h
   ·simp at h
   ·rename_i off size hp
    split at h
    ·rename_i hcond
     simp only [Bool.and_eq_true] at hcond
     have h1 := beq_true hcond.1
     have h2 := ble_true hcond.2
     have hvc := hv.cells
     have hl := hvc.length
     have hlc := hc.length
     have hsz : u.cells.size = size := by simp at hl; omega
     have hnew : VRs φ (cells.take off ++ v.cells ++ cells.drop (off + size)) (us.take off ++ u.cells.toList ++ us.drop (off + size)) := ((hc.take off).append hvc).append (hc.drop _)
     obtain ⟨us', g1, g2⟩ := fillP_ok hpl ps qs _ _ cs hnew hi hvs h
     refine ⟨us', ?_, g2⟩
     simp only [Instr.fill, hpl _ _ hp]
     rw [if_neg (by simp [hsz]; omega)]
     have := foldl_set u.cells.toList 0 off us (by simp; omega)
     have e : (u.cells.zipIdx.foldl (fun cs (x : Value × Nat) => cs.setIfInBounds (off + x.2) x.1) us.toArray) = (us.take off ++ u.cells.toList ++ us.drop (off + size)).toArray := by
      rw [← Array.foldl_toList, Array.toList_zipIdx]
      simp only [Nat.add_zero] at this
      rw [this]
      simp [hsz]
     exact (congrArg (fun a => Instr.fill place a qs) e).trans g1
    ·simp at h
section
variable (hD : TabOk P D)
include hD
theorem placesA_ok (w : World) : ∀ (fs : List Field) (pl : List (Nat × Nat)), placesA D (fs.map fun f => (f.type, f.offset, f.name != "_")) = some pl →
  (fs.mapM fun f => do pure (f.offset, ← sizeOf f.type) : Sem (List (Nat × Nat))).run P w = .ok pl w
 | [], pl, h => by simp [placesA] at h; subst h; rfl
 | f :: fs, pl, h => by
  simp only [placesA, List.map_cons] at h
  split at h
  ·rename_i i l hi hl
   simp at h
   subst h
   have ih := placesA_ok w fs l hl
   simp only [List.mapM_cons, Sem.run_bind, run_size hD hi, Sem.run_pure, Result.andThen_ok, ih]
  ·simp at h
theorem build_struct {t : TypeId} {i : TyI} {fs : List (TypeId × Nat × Bool)} {z : AV} {pl : List (Nat × Nat)} {cs vs : List AV} {ps : Array (Nat × Operand)} {us : List Value} (hi : D.ty.get t = some i) (hz : i.zero = some z) (hd : i.d = .struct fs)
  (hp : placesA D fs = some pl) (hv : VRs φ vs us) (hul : us = ps.toList.map fun x => ρ x.2) (hf : fillP pl z.cells ((ps.toList.map (·.1)).zip vs) = some cs) (w : World) :
  ∃ u, VR φ (.agg cs) u ∧ (Instr.build t (ps.map fun (i, x) => (i, ρ x))).run P w = .ok u w := by
 obtain ⟨de, _, hde, hu⟩ := run_under hD hi w
 rw [hd] at hde
 obtain ⟨gs, rfl, rfl⟩ := tdOf_struct hde
 obtain ⟨zv, z1, z2⟩ := run_zero hD hi hz w
 have hpl := placesA_ok hD w gs.toList pl hp
 have hzc := (constAV_ok (φ := φ) z2).cells
 have hlen : vs.length = ps.toList.length := by rw [hv.length, hul]; simp
 have hlp : ps.toList.length = ps.size := by simp
 obtain ⟨us', g1, g2⟩ := fillP_ok (pl := pl) (place := fun i => (pl.toArray)[i]?) (fun i x h => by simpa using h) ((ps.toList.map (·.1)).zip vs) (ps.toList.map fun x => (x.1, ρ x.2)) z.cells zv.cells.toList cs hzc (by
  rw [List.map_fst_zip (by simp; omega)]; simp) (by
  rw [List.map_snd_zip (by simp; omega)]
  have : (ps.toList.map fun x => (x.1, ρ x.2)).map (·.2) = us := by rw [hul]; simp
  rw [this]; exact hv) hf
 refine ⟨_, .agg g2, ?_⟩
 have hm : (gs.mapM (fun f => do pure (f.offset, ← sizeOf f.type) : Field → Sem (Nat × Nat))).run P w = .ok pl.toArray w := by
  have : (gs.mapM (fun f => do pure (f.offset, ← sizeOf f.type) : Field → Sem (Nat × Nat))) = List.toArray <$> (gs.toList.mapM (fun f => do pure (f.offset, ← sizeOf f.type) : Field → Sem (Nat × Nat))) := by
   obtain ⟨l⟩ := gs
   simp
  rw [this, Sem.run_map, hpl]
  rfl
 simp only [Instr.build, Sem.run_bind, z1, hu, Result.andThen_ok, hm]
 have e : (ps.map fun (i, x) => (i, ρ x)).toList = ps.toList.map fun x => (x.1, ρ x.2) := by simp
 rw [e]
 simp only [Array.toArray_toList] at g1
 simp only [g1]
 rfl
omit hD in
theorem range_places (n k : Nat) : ∀ i x, ((List.range n).map fun i => (i * k, k))[i]? = some x → (fun i => some (i * k, k) : Nat → Option (Nat × Nat)) i = some x := by
 intro i x h
 simp only [List.getElem?_map, Option.map_eq_some_iff] at h
 obtain ⟨a, h1, rfl⟩ := h
 have hl : i < (List.range n).length := by
  rcases Nat.lt_or_ge i (List.range n).length with h | h
  ·exact h
  ·rw [List.getElem?_eq_none h] at h1; simp at h1
 rw [List.getElem?_eq_getElem hl] at h1
 simp at h1
 subst h1
 rfl
theorem build_array {t e : TypeId} {i ei : TyI} {n : Nat} {z : AV} {cs vs : List AV} {ps : Array (Nat × Operand)} {us : List Value} (hi : D.ty.get t = some i) (hz : i.zero = some z) (hd : i.d = .array n e) (hei : D.ty.get e = some ei)
  (hv : VRs φ vs us) (hul : us = ps.toList.map fun x => ρ x.2) (hf : fillP ((List.range n).map fun i => (i * ei.size, ei.size)) z.cells ((ps.toList.map (·.1)).zip vs) = some cs) (w : World) :
  ∃ u, VR φ (.agg cs) u ∧ (Instr.build t (ps.map fun (i, x) => (i, ρ x))).run P w = .ok u w := by
 obtain ⟨de, _, hde, hu⟩ := run_under hD hi w
 rw [hd] at hde
 obtain ⟨rfl⟩ : de = .array n e := by cases de <;> simp [tdOf] at hde; obtain ⟨rfl, rfl⟩ := hde; rfl
 obtain ⟨zv, z1, z2⟩ := run_zero hD hi hz w
 have hzc := (constAV_ok (φ := φ) z2).cells
 have hlen : vs.length = ps.toList.length := by rw [hv.length, hul]; simp
 have hlp : ps.toList.length = ps.size := by simp
 obtain ⟨us', g1, g2⟩ := fillP_ok (place := fun i => some (i * ei.size, ei.size)) (range_places n ei.size) ((ps.toList.map (·.1)).zip vs) (ps.toList.map fun x => (x.1, ρ x.2)) z.cells zv.cells.toList cs hzc (by
  rw [List.map_fst_zip (by simp; omega)]; simp) (by
  rw [List.map_snd_zip (by simp; omega)]
  have : (ps.toList.map fun x => (x.1, ρ x.2)).map (·.2) = us := by rw [hul]; simp
  rw [this]; exact hv) hf
 refine ⟨_, .agg g2, ?_⟩
 simp only [Instr.build, Sem.run_bind, z1, hu, Result.andThen_ok, run_size hD hei]
 have e : (ps.map fun (i, x) => (i, ρ x)).toList = ps.toList.map fun x => (x.1, ρ x.2) := by simp
 rw [e]
 simp only [Array.toArray_toList] at g1
 simp only [g1]
 rfl
end
end Go.Eng

namespace Go.Eng
variable {P : Program} {D : Tab} {φ : Phi} {s : St} {w : World} {T : PT AV} {ρ : Operand → Value}
def zerosV (us : List Value) : Nat → List Value
 | 0 => []
 | n + 1 => us ++ zerosV us n
theorem zerosV_length (us : List Value) : ∀ n, (zerosV us n).length = n * us.length
 | 0 => by simp [zerosV]
 | n + 1 => by simp [zerosV, zerosV_length us n, Nat.succ_mul, Nat.add_comm]
theorem zerosV_get (us : List Value) : ∀ (n i : Nat), i < n * us.length → (zerosV us n)[i]? = us[i % us.length]?
 | 0, i, h => by simp at h
 | n + 1, i, h => by
  simp only [zerosV]
  by_cases hi : i < us.length
  ·rw [List.getElem?_append_left hi, Nat.mod_eq_of_lt hi]
  ·have hle : us.length ≤ i := by omega
   rw [List.getElem?_append_right hle, zerosV_get us n (i - us.length) (by rw [Nat.succ_mul] at h; omega)]
   congr 1
   rw [Nat.mod_eq_sub_mod hle]
theorem zeros_list (us : List Value) (n : Nat) : (List.range (n * us.length)).map (fun i => us.toArray[i % us.length]!) = zerosV us n := by
 apply List.ext_getElem?
 intro i
 by_cases hi : i < n * us.length
 ·have hpos : 0 < us.length := by
   rcases Nat.eq_zero_or_pos us.length with h | h
   ·rw [h] at hi; simp at hi
   ·exact h
  have hlt : i % us.length < us.length := Nat.mod_lt _ hpos
  rw [zerosV_get us n i hi]
  simp [hi, hlt]
 ·rw [List.getElem?_eq_none (by simp; omega), List.getElem?_eq_none (by rw [zerosV_length]; omega)]
theorem zeros_ok : ∀ {z : List AV} {us : List Value}, VRs φ z us → ∀ n, VRs φ (zeros z n) (zerosV us n)
 | _, _, _, 0 => .nil
 | _, _, h, n + 1 => h.append (zeros_ok h n)
theorem range_map_zeros (us : List Value) (n k : Nat) (hk : us.length = k) : (Array.range (n * k)).map (fun i => us.toArray[i % us.toArray.size]!) = (zerosV us n).toArray := by
 subst hk
 have h := zeros_list us n
 apply Array.toList_inj.1
 simp only [Array.toList_map, Array.toList_range, List.size_toArray]
 exact h
theorem sliceCells_ok (h : Rel φ s w) {size : Nat} {x : AV} {xv : Value} {l : List AV} (hx : VR φ x xv) (hl : sliceCells s.h size x = some l) :
  ∃ n us, avLen x = some n ∧ VRs φ l us ∧ us.length = n * size ∧ (Builtin.lenOf xv).run P w = .ok n w ∧ (Builtin.firstCells size n xv).run P w = .ok us.toArray w := by
 unfold sliceCells at hl
 split at hl
 ·simp at hl; subst hl; cases hx; exact ⟨0, [], rfl, .nil, by simp, by simp [Builtin.lenOf], by simp [Builtin.firstCells]⟩
 ·simp at hl; subst hl; cases hx; exact ⟨0, [], rfl, .nil, by simp, by simp [Builtin.lenOf], by simp [Builtin.firstCells, loadCells, loadCellsFrom]⟩
 ·rename_i b o len cp
  split at hl
  ·rename_i c n tl hb
   split at hl
   ·rename_i hn
    cases hx with
    | slice hr hc =>
     obtain ⟨us, h1, h2, h3⟩ := read_cells (P := P) h hb (ble_true hn) hl hr
     exact ⟨len, us, rfl, h1, h2, by simp [Builtin.lenOf], by simp [Builtin.firstCells, h3]⟩
   ·simp at hl
  ·simp at hl
 ·rename_i t
  split at hl
  ·rename_i hs
   have := beq_true hs
   subst this
   simp at hl
   subst hl
   cases hx
   refine ⟨t.size, t.data.toList.map fun x => .int .u8 x.toNat, rfl, ?_, by rw [List.length_map, Nat.mul_one]; rfl, by simp [Builtin.lenOf], ?_⟩
   ·induction t.data.toList with
    | nil => exact .nil
    | cons a r ih => exact .cons (.int _ _) ih
   ·simp only [Builtin.firstCells, Sem.run_pure]
    congr 1
    have : t.extract 0 t.size = t := ByteArray.extract_zero_size
    rw [this]
    obtain ⟨⟨l⟩⟩ := t
    simp
  ·simp at hl
 ·simp at hl
theorem growBy_le (newLen : Nat) : ∀ (k c B : Nat), c ≤ B → newLen + (newLen + 768) / 4 ≤ B → Builtin.growBy newLen k c ≤ B
 | 0, c, B, h, _ => by simpa [Builtin.growBy] using h
 | k + 1, c, B, h, hb => by
  simp only [Builtin.growBy]
  split
  ·exact h
  ·exact growBy_le newLen k _ B (by omega) hb
theorem nextslicecap_le {need cap : Nat} (h : cap < need) : Builtin.nextslicecap need cap ≤ need + need / 4 + 600 := by
 unfold Builtin.nextslicecap
 split
 ·omega
 ·split
  ·omega
  ·exact growBy_le need 4 cap _ (by omega) (by omega)
theorem choose_cap (need old : Nat) (e : TypeId) (w : World) : ∃ c d, need ≤ c ∧ (choose (.appendCap need old e)).run P w = .ok c { w with drawn := d } ∧ w.drawn ≤ d :=
 ⟨need + w.tape w.drawn (.appendCap need old e) % (2 ^ 63 - need), w.drawn + 1, by omega, by simp [Question.forced, Question.cut], Nat.le_succ _⟩
def Phi.setC (φ : Phi) (k c : Nat) : Phi := { φ with cap := fun i => if i = k then some c else φ.cap i }
theorem Phi.le_setC {φ : Phi} {k c : Nat} (h : φ.cap k = none) : φ.le (φ.setC k c) :=
 ⟨fun _ _ h => h, fun j y hc => by
  have : j ≠ k := by rintro rfl; rw [h] at hc; simp at hc
  simp [Phi.setC, this, hc], fun _ _ h => h, rfl⟩
theorem Rel.setC (h : Rel φ s w) (c : Nat) : Rel (φ.setC s.nc c) { s with nc := s.nc + 1 } w ∧ Stp φ s w (φ.setC s.nc c) { s with nc := s.nc + 1 } w := by
 have hle : φ.le (φ.setC s.nc c) := Phi.le_setC (h.freshc _ (Nat.le_refl _))
 constructor
 ·constructor
  ·intro b o hb
   rcases h.obj b o hb with hv | ⟨r, sh, ro, h1, h2, h3⟩
   ·exact .inl (hv.mono hle.env hv.none)
   ·exact .inr ⟨r, sh, ro, h1, h2, h3.mono hle⟩
  ·exact h.inj
  ·exact h.fresh
  ·intro k hk
   have : k ≠ s.nc := by simp at hk; omega
   simp [Phi.setC, this, h.freshc k (by simp at hk; omega)]
  ·exact h.glob
  ·exact h.gnx
  ·exact h.facts
 ·exact ⟨hle, fun b r sh hb hr => .inr ⟨b, sh, hb, hr⟩, fun b r sh hb hr => .inr ⟨b, sh, hb, hr⟩, fun _ _ _ => rfl, Nat.le_refl _, rfl, rfl, rfl, Nat.le_refl _, by simp, fun _ _ => rfl, fun _ arr _ fz h => ⟨arr, fz, h, rfl⟩, fun _ => Nat.le_refl _⟩
theorem Rel.less (h : Rel φ s w) {h' : PT AObj} (hl : ∀ b o, h'.get b = some o → s.h.get b = some o) : Rel φ { s with h := h' } w ∧ Stp φ s w φ { s with h := h' } w := by
 have hs : ∀ b, (h'.get b).isSome = true → (s.h.get b).isSome = true := fun b hb => by
  obtain ⟨o, ho⟩ := Option.isSome_iff_exists.1 hb
  rw [hl b o ho]; rfl
 exact ⟨⟨fun b o hb => h.obj b o (hl b o hb), fun b b' r sh sh' hb hb' => h.inj b b' r sh sh' (hs b hb) (hs b' hb'), h.fresh, h.freshc, h.glob, h.gnx, h.facts⟩,
  ⟨Phi.le.rfl' φ, fun b r sh hb hr => .inr ⟨b, sh, hs b hb, hr⟩, fun b r sh hb hr => .inr ⟨b, sh, (by
   obtain ⟨o, ho⟩ := Option.isSome_iff_exists.1 (ownB.some hb)
   rw [← ownB.eq (h := s.h) (h' := h') (b := b) (c := b) (by rw [ho, hl b o ho])]; exact hb), hr⟩, fun _ _ _ => rfl, Nat.le_refl _, rfl, rfl, rfl, Nat.le_refl _, Nat.le_refl _, fun _ _ => rfl, fun _ arr _ fz h => ⟨arr, fz, h, rfl⟩, fun _ => Nat.le_refl _⟩⟩
theorem grow_new (h : Rel φ s w) {h' : PT AObj} (hl : ∀ b o, h'.get b = some o → s.h.get b = some o) {size need c : Nat} {cells : List AV} {us rest : List Value} (hv : VRs φ cells us) (hul : us.length = need * size) (hrest : rest.length = (c - need) * size) (hc : need ≤ c) (e : TypeId) :
  ∃ φ' w', (newRow e (us ++ rest).toArray).run P w = .ok ⟨w.heap.size, 0, none⟩ w' ∧ Stp φ s w φ' (growA s h' size need cells).2 w' ∧ Rel φ' (growA s h' size need cells).2 w' ∧ VR φ' (growA s h' size need cells).1 (.slice (some ⟨w.heap.size, 0, none⟩) need c) := by
 obtain ⟨h1, h2⟩ := h.less hl
 obtain ⟨h3, h4⟩ := h1.setC c
 have hfr := h3.fresh s.nx (Nat.le_refl _)
 have hle : (φ.setC s.nc c).le ((φ.setC s.nc c).setB s.nx (w.heap.size, 0)) := Phi.le_setB hfr
 have hle0 := h4.ext
 have hv' : VRs ((φ.setC s.nc c).setB s.nx (w.heap.size, 0)) cells us := (hv.mono hle0).mono hle
 have hcells : CellsR ((φ.setC s.nc c).setB s.nx (w.heap.size, 0)) 0 (PT.setAll .nil 0 cells) (need * size) (us ++ rest).toArray := by
  refine CellsR.of_total (by simp; omega) fun i hi => ?_
  obtain ⟨u, g1, g2⟩ := hv'.get i _ (List.getElem?_eq_getElem (by rw [hv.length, hul]; exact hi))
  refine ⟨_, u, ?_, ?_, g2⟩
  ·rw [PT.get_setAll, if_pos (by have := hv.length; omega)]
   simp only [Nat.sub_zero]
   exact List.getElem?_eq_getElem (by have := hv.length; omega)
  ·simp only [Nat.zero_add, List.getElem?_toArray]
   rw [List.getElem?_append_left (by omega)]
   exact g1
 have hsz : (us ++ rest).toArray.size = 0 + c * size := by
  simp only [List.size_toArray, List.length_append, hul, hrest, Nat.zero_add, ← Nat.add_mul]
  congr 1
  omega
 have := h3.put_new (b := s.nx) (o := .cells (PT.setAll .nil 0 cells) (need * size) (some (s.nc, size))) (ro := .cells (us ++ rest).toArray e (0, 0)) hfr rfl (s' := (growA s h' size need cells).2) rfl (by simp [growA]) (by simp [growA]) rfl
  (.tail hcells (by simp [Phi.setB, Phi.setC]) hsz (.inl rfl))
 refine ⟨_, _, by simp [newRow], (h2.trans h4).trans this.2, this.1, ?_⟩
 have hb : ((φ.setC s.nc c).setB s.nx (w.heap.size, 0)).blk s.nx = some (w.heap.size, 0) := by simp [Phi.setB]
 have hcp : CR ((φ.setC s.nc c).setB s.nx (w.heap.size, 0)) (.var s.nc 0) (c - 0) := .var (by simp [Phi.setB, Phi.setC])
 simpa [growA] using VR.slice hb hcp 0 need (by omega)
theorem grow_old (h : Rel φ s w) {b o n m k sub size cp r sh nn : Nat} {cc : PT AV} {old new : List AV} {us : List Value} (hb : s.h.get b = some (.cells cc nn (some (k, size)))) (ho : o = sub * size) (hr : φ.blk b = some (r, sh)) (hk : φ.cap k = some cp)
  (hroom : n + m ≤ cp - sub) (hm : 0 < m) (hz : 0 < size) (hold : cc.getAll o (n * size) = some old) (hon : o + n * size ≤ nn) (h1 : ones new = true) (hv : VRs φ new us) (hul : us.length = m * size) :
  ∃ φ' w', (storeCells ⟨r, sh + (o + n * size), none⟩ us 0).run P w = .ok () w' ∧ Stp φ s w φ' (growA s (s.h.del b) size (n + m) (old ++ new)).2 w' ∧ Rel φ' (growA s (s.h.del b) size (n + m) (old ++ new)).2 w' ∧
   VR φ' (growA s (s.h.del b) size (n + m) (old ++ new)).1 (.slice (some ⟨r, sh + o, none⟩) (n + m) (cp - sub)) := by
 obtain ⟨r', sh', arr, el, fz, g1, g2, g3, g4⟩ := h.cells hb
 rw [hr] at g1
 simp at g1
 obtain ⟨rfl, rfl⟩ := g1
 have hownb : ownB s.h b = true := by
  obtain ⟨z, rfl⟩ : ∃ z, size = z + 1 := ⟨size - 1, by omega⟩
  simp [ownB, hb]
 rcases g4 with ⟨g4, _⟩ | ⟨k', z, cp', g5, g6, g7, g8⟩ | ⟨_, g5⟩
 ·simp at g4
 ·simp at g5
  obtain ⟨rfl, rfl⟩ := g5
  rw [hk] at g6
  simp at g6
  subst g6
  obtain ⟨d, rfl⟩ : ∃ d, cp = sub + d := ⟨cp - sub, by omega⟩
  have hd : sub + d - sub = d := by omega
  rw [hd] at hroom ⊢
  have hlt : r < w.heap.size := (Array.getElem?_eq_some_iff.1 g2).1
  have hmul : (sub + d) * size = sub * size + d * size := Nat.add_mul _ _ _
  have hmul2 : (n + m) * size = n * size + m * size := Nat.add_mul _ _ _
  have hdm : (n + m) * size ≤ d * size := Nat.mul_le_mul_right _ hroom
  have hfz : fz = (0, 0) ∨ arr.size ≤ fz.1 := by
   rcases g8 with g8 | g8
   ·exact .inl g8
   ·exact .inr g8.2
  have hrun := storeCells_run (P := P) r (sh + (o + n * size)) el fz us 0 arr w g2 hfz (by omega) (ones_ok h1 hv)
  rw [setRow_eq g2] at hrun
  simp only [Nat.add_zero] at hrun
  generalize harr : (arr.toList.take (sh + (o + n * size)) ++ us ++ arr.toList.drop (sh + (o + n * size) + us.length)).toArray = arr' at hrun
  have hsz' : arr'.size = arr.size := by rw [← harr]; simp; omega
  have hget : ∀ i, arr'[i]? = if sh + (o + n * size) ≤ i ∧ i < sh + (o + n * size) + us.length then us[i - (sh + (o + n * size))]? else arr[i]? := by
   intro i
   rw [← harr]
   simp only [List.getElem?_toArray]
   by_cases hin : sh + (o + n * size) ≤ i ∧ i < sh + (o + n * size) + us.length
   ·rw [if_pos hin, List.append_assoc, List.getElem?_append_right (by simp; omega), List.getElem?_append_left (by simp; omega)]
    congr 1
    simp; omega
   ·rw [if_neg hin]
    by_cases hlo : i < sh + (o + n * size)
    ·rw [List.append_assoc, List.getElem?_append_left (by simp; omega), List.getElem?_take_of_lt hlo]
     simp
    ·rw [List.getElem?_append_right (by simp; omega)]
     simp only [List.length_append, List.length_take, Array.length_toList, List.getElem?_drop]
     rw [show sh + (o + n * size) + us.length + (i - (min (sh + (o + n * size)) arr.size + us.length)) = i by omega]
     simp
  obtain ⟨l1, l2, l3⟩ := g3.list (n * size) o old hon hold
  have hnb : s.nx ≠ b := by
   have := h.dom_lt (b := b) (by simp [hb])
   omega
  have hfr := h.fresh s.nx (Nat.le_refl _)
  let ψ : Phi := (φ.setC s.nc d).setB s.nx (r, sh + o)
  have hle : φ.le ψ := (Phi.le_setC (h.freshc _ (Nat.le_refl _))).trans (Phi.le_setB (φ := φ.setC s.nc d) hfr)
  have hcells : CellsR ψ (sh + o) (PT.setAll .nil 0 (old ++ new)) ((n + m) * size) arr' := by
   refine CellsR.of_total (by rw [hsz', g7]; omega) fun i hi => ?_
   have hlold : old.length = n * size := by rw [l2.length, l3.1]
   have hlnew : new.length = m * size := by rw [hv.length, hul]
   rw [PT.get_setAll, if_pos (by simp; omega)]
   simp only [Nat.sub_zero]
   by_cases hio : i < n * size
   ·obtain ⟨u, e1, e2⟩ := l2.get i _ (List.getElem?_eq_getElem (by omega))
    refine ⟨_, u, ?_, ?_, e2.mono hle⟩
    ·rw [List.getElem?_append_left (by omega)]; exact List.getElem?_eq_getElem (by omega)
    ·rw [hget, if_neg (by omega)]
     exact l3.2 i u e1
   ·obtain ⟨u, e1, e2⟩ := hv.get (i - n * size) _ (List.getElem?_eq_getElem (by omega))
    refine ⟨_, u, ?_, ?_, e2.mono hle⟩
    ·rw [List.getElem?_append_right (by omega), hlold]; exact List.getElem?_eq_getElem (by omega)
    ·rw [hget, if_pos (by omega)]
     rw [show sh + o + i - (sh + (o + n * size)) = i - n * size by omega]
     exact e1
  have hψ : ∀ c, c ≠ s.nx → ψ.blk c = φ.blk c := fun c hc => by simp [ψ, Phi.setB, Phi.setC, hc]
  have hdom : ∀ c, c ≠ s.nx → (((s.h.del b).set s.nx (.cells (PT.setAll .nil 0 (old ++ new)) ((n + m) * size) (some (s.nc, size)))).get c).isSome = true → c ≠ b ∧ (s.h.get c).isSome = true := by
   intro c hc hs
   rw [PT.get_set, if_neg hc, PT.get_del] at hs
   by_cases e : c = b
   ·rw [if_pos e] at hs; simp at hs
   ·rw [if_neg e] at hs; exact ⟨e, hs⟩
  refine ⟨ψ, _, hrun, ?_, ?_, ?_⟩
  ·constructor
   ·exact hle
   ·intro c r1 s1 hc h1'
    by_cases e : c = s.nx
    ·subst e
     simp [ψ, Phi.setB] at h1'
     exact .inr ⟨b, sh, by simp [hb], by rw [hr, h1'.1]⟩
    ·rw [hψ c e] at h1'
     exact .inr ⟨c, s1, (hdom c e hc).2, h1'⟩
   ·intro c r1 s1 hc h1'
    by_cases e : c = s.nx
    ·subst e
     simp [ψ, Phi.setB] at h1'
     exact .inr ⟨b, sh, hownb, by rw [hr, h1'.1]⟩
    ·rw [hψ c e] at h1'
     have hcb := (hdom c e (ownB.some hc)).1
     exact .inr ⟨c, s1, by rw [ownB.eq (h := s.h) (b := c) (by simp only [growA, PT.get_set, PT.get_del]; rw [if_neg e, if_neg hcb])] at hc; exact hc, h1'⟩
   ·intro r1 hr1 hn1
    have : r ≠ r1 := by rintro rfl; exact hn1 b sh hownb hr
    simp [Array.getElem?_setIfInBounds_ne this]
   ·simp
   ·rfl
   ·rfl
   ·rfl
   ·simp [growA]
   ·simp [growA]
   ·exact fun c hc => hψ c (by omega)
   ·intro r1 a1 e1 f1 hx
    by_cases e' : r = r1
    ·subst e'
     rw [g2] at hx
     simp at hx
     obtain ⟨rfl, rfl, rfl⟩ := hx
     exact ⟨arr', fz, by simp [hlt], hsz'⟩
    ·exact ⟨a1, f1, by simp only [Array.getElem?_setIfInBounds_ne e']; exact hx, rfl⟩
   ·exact fun _ => Nat.le_refl _
  ·constructor
   ·intro c x hc
    by_cases e : c = s.nx
    ·subst e
     simp [growA] at hc
     subst hc
     refine .inr ⟨r, sh + o, .cells arr' el fz, by simp [ψ, Phi.setB], by simp [hlt], .tail (cp := d) hcells (by simp [ψ, Phi.setB, Phi.setC]) ?_ ?_⟩
     ·rw [hsz', g7]; omega
     ·rw [hsz']; exact g8
    ·have hc' : (s.h.del b).get c = some x := by simpa [growA, PT.get_set, e] using hc
     rw [PT.get_del] at hc'
     by_cases eb : c = b
     ·rw [if_pos eb] at hc'; simp at hc'
     ·rw [if_neg eb] at hc'
      rcases h.obj c x hc' with hv | ⟨r1, s1, ro, e1, e2, e3⟩
      ·exact .inl (hv.mono hle.env (by rw [hψ c e]; exact hv.none))
      refine .inr ⟨r1, s1, ro, by rw [hψ c e]; exact e1, ?_, e3.mono hle⟩
      have : r ≠ r1 := by
       rintro rfl
       exact eb (h.inj c b r s1 sh (by simp [hc']) (by simp [hb]) e1 hr)
      simp only [Array.getElem?_setIfInBounds_ne this]; exact e2
   ·intro c c' r1 s1 s2 hc hc' h1' h2'
    simp only [growA] at hc hc'
    by_cases e : c = s.nx
    ·by_cases e' : c' = s.nx
     ·rw [e, e']
     ·exfalso
      subst e
      simp [ψ, Phi.setB] at h1'
      rw [hψ c' e'] at h2'
      obtain ⟨d1, d2⟩ := hdom c' e' hc'
      rw [← h1'.1] at h2'
      exact d1 (h.inj c' b r s2 sh d2 (by simp [hb]) h2' hr)
    ·by_cases e' : c' = s.nx
     ·exfalso
      subst e'
      simp [ψ, Phi.setB] at h2'
      rw [hψ c e] at h1'
      obtain ⟨d1, d2⟩ := hdom c e hc
      rw [← h2'.1] at h1'
      exact d1 (h.inj c b r s1 sh d2 (by simp [hb]) h1' hr)
     ·rw [hψ c e] at h1'
      rw [hψ c' e'] at h2'
      exact h.inj c c' r1 s1 s2 (hdom c e hc).2 (hdom c' e' hc').2 h1' h2'
   ·intro c hc
    have : c ≠ s.nx := by simp [growA] at hc; omega
    rw [hψ c this]
    exact h.fresh c (by simp [growA] at hc; omega)
   ·intro c hc
    have : c ≠ s.nc := by simp [growA] at hc; omega
    simp [ψ, Phi.setB, Phi.setC, this, h.freshc c (by simp [growA] at hc; omega)]
   ·intro g hg
    have : g ≠ s.nx := by have := h.gnx; have : GG < GB := by decide
                          omega
    rw [hψ g this]; exact h.glob g hg
   ·have := h.gnx
    simp [growA]; omega
   ·exact h.facts
  ·have hbk : ψ.blk s.nx = some (r, sh + o) := by simp [ψ, Phi.setB]
   have hcp : CR ψ (.var s.nc 0) (d - 0) := .var (by simp [ψ, Phi.setB, Phi.setC])
   simpa [growA] using VR.slice hbk hcp 0 (n + m) (by omega)
 ·simp at g5
  omega
end Go.Eng

namespace Go.Eng
variable {P : Program} {D : Tab} {φ : Phi} {s : St} {w : World} {T : PT AV} {ρ : Operand → Value}
section
variable (hD : TabOk P D)
include hD
theorem seq_ok {t : TypeId} {i : TyI} (hi : D.ty.get t = some i) (hn : isSeq i.d = true) (w : World) : ∃ d, (∀ w, (underlying t).run P w = .ok d w) ∧ ((∃ e, d = .slice e) ∨ d = .string) := by
 obtain ⟨d, hq, hd, hu⟩ := run_under hD hi w
 refine ⟨d, fun w => by simp [underlying, hq], ?_⟩
 rw [hd] at hn
 cases d <;> simp [tdOf, isSeq] at hn
 ·exact .inr rfl
 ·exact .inl ⟨_, rfl⟩
theorem typeInfo_any {t : TypeId} {i : TyI} (hi : D.ty.get t = some i) (w w' : World) {ti : TypeInfo} (h : (typeInfo t).run P w = .ok ti w) : (typeInfo t).run P w' = .ok ti w' := by
 obtain ⟨ti', h1, _, _, _, h2⟩ := run_info hD hi w
 rw [h] at h2
 simp at h2
 subst h2
 simp [typeInfo, h1]
theorem append_grow (hr : Rel φ s w) {sT xT ty e : TypeId} {dx : TypeDesc} {size bytes n m c : Nat} {ei : TyI} {z : AV} {x y : AV} {base : Option Addr} {yv : Value} {old new : List AV} (hus : ∀ w, (underlying sT).run P w = .ok (.slice e) w) (hux : ∀ w, (underlying xT).run P w = .ok dx w) (hxm : (∃ e, dx = .slice e) ∨ dx = .string)
  (hei : D.ty.get e = some ei) (hz : ei.zero = some z) (hzl : z.cells.length = ei.size) (hes : ei.size = size) (heb : ei.bytes = bytes)
  (hx : VR φ x (.slice base n c)) (hy : VR φ y yv) (hn : avLen x = some n) (hm : avLen y = some m) (hold : sliceCells s.h size x = some old) (hnew : sliceCells s.h size y = some new) (hc : c < n + m) (hb1 : (n + m + (n + m) / 4 + 600) * bytes ≤ 2 ^ 48) (hb2 : n + m ≤ 2 ^ 48)
  {h' : PT AObj} (hl : ∀ b o, h'.get b = some o → s.h.get b = some o) :
  ∃ φ' u w', VR φ' (growA s h' size (n + m) (old ++ new)).1 u ∧ (Builtin.append_ #[sT, xT] ty #[.slice base n c, yv]).run P w = .ok u w' ∧ Stp φ s w φ' (growA s h' size (n + m) (old ++ new)).2 w' ∧ Rel φ' (growA s h' size (n + m) (old ++ new)).2 w' := by
 subst hes; subst heb
 obtain ⟨nc, d, hc1, hc2, hdd⟩ := choose_cap (P := P) (n + m) c e w
 have hrd := hr.drawn d
 obtain ⟨n', us, a1, a2, a3, a4, a5⟩ := sliceCells_ok (P := P) hrd hx hold
 obtain ⟨m', vs, b1, b2, b3, b4, b5⟩ := sliceCells_ok (P := P) hrd hy hnew
 obtain ⟨m'', vs', b1', _, _, b4', _⟩ := sliceCells_ok (P := P) hr hy hnew
 rw [hn] at a1; simp at a1; subst a1
 rw [hm] at b1; simp at b1; subst b1
 rw [hm] at b1'; simp at b1'; subst b1'
 obtain ⟨ti, t1, t2, t3, t4, t5⟩ := run_info hD hei w
 obtain ⟨zv, z1, z2⟩ := run_zero hD hei hz { w with drawn := d }
 have hzc := (constAV_ok (φ := φ) z2).cells
 have hzs : zv.cells.toList.length = ei.size := by rw [← hzc.length]; exact hzl
 have hrest : Builtin.zeroCells zv.cells (nc - (n + m)) = (zerosV zv.cells.toList (nc - (n + m))).toArray := by
  have := range_map_zeros zv.cells.toList (nc - (n + m)) zv.cells.size (by simp)
  simpa [Builtin.zeroCells] using this
 have hlen : (us ++ vs).length = (n + m) * ei.size := by rw [List.length_append, a3, b3, Nat.add_mul]
 have hrl : (zerosV zv.cells.toList (nc - (n + m))).length = (nc - (n + m)) * ei.size := by rw [zerosV_length, hzs]
 obtain ⟨φ', w', g1, g2, g3, g4⟩ := grow_new (P := P) hrd hl (cells := old ++ new) (us := us ++ vs) (a2.append b2) hlen hrl hc1 e
 refine ⟨φ', _, w', g4, ?_, (Stp.drawn φ s w d hdd).trans g2, g3⟩
 have hcapb : ¬ Builtin.nextslicecap (n + m) c * ti.bytes > 2 ^ 48 := by
  have := Nat.mul_le_mul_right ti.bytes (nextslicecap_le hc)
  rw [t3] at hb1
  omega
 have hbig : ¬ (((n + m : Nat) : Int) > IntKind.i64.max ∧ (False ∨ ti.bytes = 0)) := by
  intro hh
  have := hh.1
  simp [IntKind.max, IntKind.signed, IntKind.bits] at this
  omega
 have hfit : ¬ n + m ≤ c := by omega
 have hz0 : (zeroValue e).run P { w with drawn := d } = .ok zv { w with drawn := d } := z1
 rcases hxm with ⟨e', rfl⟩ | rfl
 all_goals
  simp only [Builtin.append_, List.getElem?_toArray, List.getElem?_cons_zero, List.getElem?_cons_succ, Sem.run_bind, hus, hux, run_size hD hei, Sem.run_pure, Result.andThen_ok, Bool.false_eq_true, if_false, b4', hfit, t5, hbig, hcapb, hc2, run_askRoom, a5, Bool.not_false, if_true, b5, hz0, hrest, typeInfo_any hD hei w _ t5]
  have hcat : us.toArray ++ vs.toArray ++ (zerosV zv.cells.toList (nc - (n + m))).toArray = (us ++ vs ++ zerosV zv.cells.toList (nc - (n + m))).toArray := by simp
  simp only [hcat, g1, Result.andThen_ok]
theorem append_fits {s' : St} (hr : Rel φ s w) {sT xT ty e : TypeId} {dx : TypeDesc} {size n m c : Nat} {ei : TyI} {b o r sh : Nat} {y : AV} {yv : Value} {new : List AV} (hus : ∀ w, (underlying sT).run P w = .ok (.slice e) w) (hux : ∀ w, (underlying xT).run P w = .ok dx w) (hxm : (∃ e, dx = .slice e) ∨ dx = .string)
  (hei : D.ty.get e = some ei) (hes : ei.size = size) (hrb : φ.blk b = some (r, sh)) (hy : VR φ y yv) (hm : avLen y = some m) (hnew : sliceCells s.h size y = some new) (hc : n + m ≤ c) (hw : writeAll s b (o + n * size) new = some s') :
  ∃ w', (Builtin.append_ #[sT, xT] ty #[.slice (some ⟨r, sh + o, none⟩) n c, yv]).run P w = .ok (.slice (some ⟨r, sh + o, none⟩) (n + m) c) w' ∧ Stp φ s w φ s' w' ∧ Rel φ s' w' := by
 subst hes
 obtain ⟨m', vs, b1, b2, b3, b4, b5⟩ := sliceCells_ok (P := P) hr hy hnew
 rw [hm] at b1; simp at b1; subst b1
 obtain ⟨w', w1, w2, w3⟩ := writeAll_ok (P := P) hr hw b2 hrb
 refine ⟨w', ?_, w2, w3⟩
 have hadd : (⟨r, sh + o, none⟩ : Addr).add (n * ei.size) = ⟨r, sh + (o + n * ei.size), none⟩ := by unfold Addr.add; split <;> simp_all [Nat.add_assoc]
 rcases hxm with ⟨e', rfl⟩ | rfl
 all_goals
  simp only [Builtin.append_, List.getElem?_toArray, List.getElem?_cons_zero, List.getElem?_cons_succ, Sem.run_bind, hus, hux, run_size hD hei, Sem.run_pure, Result.andThen_ok, Bool.false_eq_true, if_false, b4, hc, if_true, b5, Bool.not_false, hadd, w1]
theorem append_room {sT xT ty e : TypeId} {dx : TypeDesc} {n m c : Nat} {ei : TyI} {a : Addr} {yv : Value} {us : List Value} {w' : World} (hus : ∀ w, (underlying sT).run P w = .ok (.slice e) w) (hux : ∀ w, (underlying xT).run P w = .ok dx w) (hxm : (∃ e, dx = .slice e) ∨ dx = .string)
  (hei : D.ty.get e = some ei) (hl : (Builtin.lenOf yv).run P w = .ok m w) (hf : (Builtin.firstCells ei.size m yv).run P w = .ok us.toArray w) (hc : n + m ≤ c) (hs : (storeCells (a.add (n * ei.size)) us 0).run P w = .ok () w') :
  (Builtin.append_ #[sT, xT] ty #[.slice (some a) n c, yv]).run P w = .ok (.slice (some a) (n + m) c) w' := by
 rcases hxm with ⟨e', rfl⟩ | rfl
 all_goals
  simp only [Builtin.append_, List.getElem?_toArray, List.getElem?_cons_zero, List.getElem?_cons_succ, Sem.run_bind, hus, hux, run_size hD hei, Sem.run_pure, Result.andThen_ok, Bool.false_eq_true, if_false, hl, hc, if_true, hf, Bool.not_false, hs]
theorem append_none {sT xT ty e : TypeId} {dx : TypeDesc} {c n : Nat} {ei : TyI} {a : Option Addr} {yv : Value} (hus : ∀ w, (underlying sT).run P w = .ok (.slice e) w) (hux : ∀ w, (underlying xT).run P w = .ok dx w) (hxm : (∃ e, dx = .slice e) ∨ dx = .string)
  (hei : D.ty.get e = some ei) (hl : (Builtin.lenOf yv).run P w = .ok 0 w) (hf : (Builtin.firstCells ei.size 0 yv).run P w = .ok #[] w) (hc : n ≤ c) :
  (Builtin.append_ #[sT, xT] ty #[.slice a n c, yv]).run P w = .ok (.slice a n c) w := by
 have hc' : n + 0 ≤ c := hc
 rcases hxm with ⟨e', rfl⟩ | rfl
 all_goals
  simp only [Builtin.append_, List.getElem?_toArray, List.getElem?_cons_zero, List.getElem?_cons_succ, Sem.run_bind, hus, hux, run_size hD hei, Sem.run_pure, Result.andThen_ok, Bool.false_eq_true, if_false, hl, hc', if_true, hf, Bool.not_false]
  cases a <;> simp [storeCells]
theorem appendC_ok (hr : Rel φ s w) {sT xT ty e : TypeId} {dx : TypeDesc} {n m : Nat} {ei : TyI} {z x y v : AV} {xv yv : Value} {old new : List AV} {s' : St} (hus : ∀ w, (underlying sT).run P w = .ok (.slice e) w) (hux : ∀ w, (underlying xT).run P w = .ok dx w) (hxm : (∃ e, dx = .slice e) ∨ dx = .string)
  (hei : D.ty.get e = some ei) (hz : ei.zero = some z) (hzl : z.cells.length = ei.size) (hx : VR φ x xv) (hy : VR φ y yv) (hn : avLen x = some n) (hm : avLen y = some m) (hm0 : 0 < m) (hold : sliceCells s.h ei.size x = some old) (hnew : sliceCells s.h ei.size y = some new)
  (hb1 : (n + m + (n + m) / 4 + 600) * ei.bytes ≤ 2 ^ 48) (hb2 : n + m ≤ 2 ^ 48) (h : appendC s ei.size x m old new = some (v, s')) :
  ∃ φ' u w', VR φ' v u ∧ (Builtin.append_ #[sT, xT] ty #[xv, yv]).run P w = .ok u w' ∧ Stp φ s w φ' s' w' ∧ Rel φ' s' w' := by
 unfold appendC at h
 split at h
 ·simp at h
  cases hx
  simp [avLen] at hn
  subst hn
  simp [sliceCells] at hold
  subst hold
  have := append_grow hD hr (ty := ty) hus hux hxm hei hz hzl rfl rfl .nilslice hy rfl hm (old := []) (by simp [sliceCells]) hnew (c := 0) (by omega) hb1 hb2 (h' := s.h) (fun _ _ h => h)
  simp only [Nat.zero_add, List.nil_append] at this
  rw [h] at this
  simpa using this
 ·simp at h
  cases hx with
  | slice0 _ a c hz0 =>
   obtain rfl := hz0 rfl
   simp [avLen] at hn
   subst hn
   simp [sliceCells] at hold
   subst hold
   have := append_grow hD hr (ty := ty) hus hux hxm hei hz hzl rfl rfl (.slice0 true a 0 hz0) hy rfl hm (old := []) (by simp [sliceCells]) hnew (c := 0) (by omega) hb1 hb2 (h' := s.h) (fun _ _ h => h)
   simp only [Nat.zero_add, List.nil_append] at this
   rw [h] at this
   simpa using this
 ·rename_i b o k c
  have hkn : k = n := by simpa [avLen] using hn
  cases hkn
  cases hx with
  | slice hrb hc o n' hle =>
   cases hc
   split at h
   ·rename_i hfit
    split at h
    ·rename_i s1 hw
     simp at h
     obtain ⟨rfl, rfl⟩ := h
     obtain ⟨w', w1, w2, w3⟩ := append_fits hD hr (ty := ty) hus hux hxm hei rfl hrb hy hm hnew (ble_true hfit) hw
     exact ⟨φ, _, w', .slice hrb (.exact c) _ _ (ble_true hfit), w1, w2, w3⟩
    ·simp at h
   ·rename_i hfit
    have hlt : c < n + m := by
     rcases Nat.lt_or_ge c (n + m) with h | h
     ·exact h
     ·exfalso
      have : Nat.ble (n + m) c = true := by simpa [Nat.ble_eq] using h
      rw [this] at hfit
      simp at hfit
    have := append_grow hD hr (ty := ty) hus hux hxm hei hz hzl rfl rfl (.slice hrb (.exact c) _ _ hle) hy rfl hm hold hnew hlt hb1 hb2 (h' := s.h) (fun _ _ h => h)
    simp at h
    rw [h] at this
    simpa using this
 ·rename_i b o k kk sub
  have hkn : k = n := by simpa [avLen] using hn
  cases hkn
  cases hx with
  | slice hrb hc o n' hle =>
   cases hc with
   | var hk =>
    rename_i r sh cp
    split at h
    ·rename_i cc nn k' sz hb
     split at h
     ·rename_i hcond
      simp only [Bool.and_eq_true] at hcond
      obtain ⟨⟨⟨⟨c1, c2⟩, c3⟩, c4⟩, c5⟩ := hcond
      have hz0 := blt_true c5
      have e1 := beq_true c1
      have e2 := beq_true c2
      have e3 := beq_true c3
      subst e1
      subst e2
      simp at h
      by_cases hroom : n + m ≤ cp - sub
      ·obtain ⟨m', vs, b1, b2, b3, b4, b5⟩ := sliceCells_ok (P := P) hr hy hnew
       rw [hm] at b1; simp at b1; subst b1
       have hold' : cc.getAll o (n * ei.size) = some old ∧ o + n * ei.size ≤ nn := by
        simp only [sliceCells, hb] at hold
        split at hold
        ·rename_i hle'
         exact ⟨hold, ble_true hle'⟩
        ·simp at hold
       obtain ⟨φ', w', g1, g2, g3, g4⟩ := grow_old (P := P) hr hb e3 hrb hk hroom hm0 hz0 hold'.1 hold'.2 c4 b2 b3
       rw [h] at g2 g3 g4
       refine ⟨φ', _, w', g4, ?_, g2, g3⟩
       have hadd : (⟨r, sh + o, none⟩ : Addr).add (n * ei.size) = ⟨r, sh + (o + n * ei.size), none⟩ := by unfold Addr.add; split <;> simp_all [Nat.add_assoc]
       exact append_room hD hus hux hxm hei b4 b5 hroom (by rw [hadd]; exact g1)
      ·have := append_grow hD hr (ty := ty) hus hux hxm hei hz hzl rfl rfl (.slice hrb (.var hk) _ _ hle) hy rfl hm hold hnew (by omega) hb1 hb2 (h' := s.h.del b) (fun c x hx => by
        rw [PT.get_del] at hx
        split at hx
        ·simp at hx
        ·exact hx)
       rw [h] at this
       simpa using this
     ·simp at h
    ·simp at h
 ·simp at h
theorem appendA_ok (hr : Rel φ s w) {sT xT ty : TypeId} {x y v : AV} {xv yv : Value} {s' : St} (hx : VR φ x xv) (hy : VR φ y yv) (h : appendA D s sT xT x y = some (v, s')) :
  ∃ φ' u w', VR φ' v u ∧ (Builtin.append_ #[sT, xT] ty #[xv, yv]).run P w = .ok u w' ∧ Stp φ s w φ' s' w' ∧ Rel φ' s' w' := by
 unfold appendA at h
 split at h
 ·rename_i i xi hi hxi
  split at h
  ·rename_i e hid
   obtain ⟨de, hq, hde, _⟩ := run_under hD hi w
   rw [hid] at hde
   obtain rfl : de = .slice e := by cases de <;> simp [tdOf] at hde; rw [hde]
   have hus : ∀ w, (underlying sT).run P w = .ok (.slice e) w := fun w => by simp [underlying, hq]
   split at h
   ·rename_i ei hei
    split at h
    ·rename_i z hz
     split at h
     ·rename_i hcond
      simp only [Bool.and_eq_true] at hcond
      have hzl := beq_true hcond.2
      obtain ⟨dx, hux, hxm⟩ := seq_ok hD hxi hcond.1 w
      unfold appendB at h
      split at h
      ·rename_i n old m new hn hold hm hnew
       split at h
       ·split at h
        ·rename_i hsl
         simp at h
         obtain ⟨rfl, rfl⟩ := h
         obtain ⟨m', vs, b1, b2, b3, b4, b5⟩ := sliceCells_ok (P := P) hr hy hnew
         rw [hm] at b1; simp at b1; subst b1
         have hvs : vs = [] := by cases vs <;> simp_all
         subst hvs
         unfold isSl at hsl
         split at hsl
         ·cases hx
          exact ⟨φ, _, w, .nilslice, append_none hD hus hux hxm hei b4 b5 (Nat.le_refl _), Stp.refl _ _ _, hr⟩
         ·cases hx with
          | slice0 _ a c hz => exact ⟨φ, _, w, .slice0 _ a c hz, append_none hD hus hux hxm hei b4 b5 (Nat.zero_le _), Stp.refl _ _ _, hr⟩
         ·cases hx with
          | slice hrb hc _ _ hn' => exact ⟨φ, _, w, .slice hrb hc _ _ hn', append_none hD hus hux hxm hei b4 b5 hn', Stp.refl _ _ _, hr⟩
         ·simp at hsl
        ·simp at h
       ·rename_i m
        split at h
        ·rename_i hbound
         simp only [Bool.and_eq_true] at hbound
         have hb1 := ble_true hbound.1
         have hb2 := ble_true hbound.2
         unfold pow48 at hb1 hb2
         exact appendC_ok hD hr hus hux hxm hei hz hzl hx hy hn hm (by omega) hold hnew hb1 hb2 h
        ·simp at h
      ·simp at h
     ·simp at h
    ·simp at h
   ·simp at h
  ·simp at h
 ·simp at h
end
end Go.Eng

