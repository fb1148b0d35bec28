/-
  The abstract interpreter, its soundness: operands, tables, blocks.
-/
import Derived.Test.YtabjigkabgecaaaGreatDoorEng4
import Derived.Laws.CopyRow
namespace Go.Eng
variable {P : Program} {D : Tab} {φ : Phi} {s : St} {w : World} {T : PT AV} {ρ : Operand → Value}

/-! ### Constants, operands -/
theorem scalarAV_ok {v : Value} {a : AV} (h : scalarAV v = some a) : VR φ a v := by
  unfold scalarAV at h
  split at h <;> simp at h <;> subst h <;> constructor

theorem scalarsAV_ok : ∀ {l : List Value} {a : List AV}, scalarsAV l = some a → VRs φ a l
  | [], a, h => by simp [scalarsAV] at h; subst h; exact .nil
  | v :: r, a, h => by
    simp only [scalarsAV] at h
    split at h <;> simp at h
    subst h
    rename_i h1 h2
    exact .cons (scalarAV_ok h1) (scalarsAV_ok h2)

theorem constAV_ok {v : Value} {a : AV} (h : constAV v = some a) : VR φ a v := by
  unfold constAV at h
  split at h
  · simp only [Option.map_eq_some_iff] at h
    obtain ⟨l, hl, rfl⟩ := h
    have := VR.agg (scalarsAV_ok (φ := φ) hl)
    simpa using this
  · simp only [Option.map_eq_some_iff] at h
    obtain ⟨l, hl, rfl⟩ := h
    have := VR.tuple (scalarsAV_ok (φ := φ) hl)
    simpa using this
  · rename_i f a b
    split at h
    · rename_i h1 h2
      simp at h; subst h
      have e1 : a = #[] := by simpa using h1
      have e2 : b = #[] := by simpa using h2
      subst e1; subst e2
      exact VR.func _ .nil .nil
    · simp at h
  · exact scalarAV_ok h

/-- What the operands are. -/
structure EvR (φ : Phi) (T : PT AV) (ρ : Operand → Value) : Prop where
  tmp : ∀ i a, T.get i = some a → VR φ a (ρ (.tmp i))
  const : ∀ v, ρ (.const v) = v
  global : ∀ g, ρ (.global g) = .pointer (some ⟨g, 0, none⟩)
  func : ∀ f, ρ (.func f) = .func (.func f) #[] #[]

theorem EvR.of_act {a : Act} (h : TR φ T a.tmps) : EvR φ T a.eval where
  tmp := fun i x hi => by
    obtain ⟨v, h1, h2⟩ := h i x hi
    simpa [Act.eval, Array.getD_eq_getD_getElem?, h1] using h2
  const := fun _ => rfl
  global := fun _ => rfl
  func := fun _ => rfl

theorem blt_true {a b : Nat} (h : Nat.blt a b = true) : a < b := by
  have : a + 1 ≤ b := by simpa [Nat.blt, Nat.ble_eq] using h
  omega
theorem ble_true {a b : Nat} (h : Nat.ble a b = true) : a ≤ b := by simpa [Nat.ble_eq] using h
theorem beq_true {a b : Nat} (h : Nat.beq a b = true) : a = b := by simpa [Nat.beq_eq] using h

theorem ev_ok (hr : Rel φ s w) (he : EvR φ T ρ) {x : Operand} {a : AV} (h : ev T x = some a) : VR φ a (ρ x) := by
  cases x with
  | tmp i => exact he.tmp i a h
  | const v => rw [he.const]; exact constAV_ok h
  | global g =>
    rw [he.global]
    simp only [ev] at h
    split at h <;> simp at h
    subst h
    rename_i hb
    simpa using VR.ptr (hr.glob g (blt_true hb)) 0
  | func f => simp [ev] at h; subst h; rw [he.func]; exact VR.func f .nil .nil

theorem evAll_ok (hr : Rel φ s w) (he : EvR φ T ρ) : ∀ {l : List Operand} {as : List AV}, evAll T l = some as → VRs φ as (l.map ρ)
  | [], as, h => by simp [evAll] at h; subst h; exact .nil
  | x :: r, as, h => by
    simp only [evAll] at h
    split at h <;> simp at h
    subst h
    rename_i h1 h2
    exact .cons (ev_ok hr he h1) (evAll_ok hr he h2)

/-! ### The tables -/
theorem tabOf_get {α : Type} (f : Nat → Option α) : ∀ (n k : Nat), (tabOf f n).get k = if k < n then f k else none := by
  intro n
  induction n with
  | zero => intro k; simp [tabOf]
  | succ n ih =>
    intro k
    simp only [tabOf]
    cases hn : f n with
    | none =>
      simp only []
      rw [ih]
      by_cases h : k = n
      · subst h; simp [hn]
      · by_cases h' : k < n
        · rw [if_pos h', if_pos (by omega)]
        · rw [if_neg h', if_neg (by omega)]
    | some x =>
      simp only []
      rw [PT.get_set, ih]
      by_cases h : k = n
      · subst h; simp [hn]
      · rw [if_neg h]
        by_cases h' : k < n
        · rw [if_pos h', if_pos (by omega)]
        · rw [if_neg h', if_neg (by omega)]

/-- The table says what the program says. -/
structure TabOk (P : Program) (D : Tab) : Prop where
  ty : ∀ t i, D.ty.get t = some i → tyOf P t = some i
  fn : ∀ f i, D.fn.get f = some i → fnOf P f = some i
  ms : ∀ t n f, D.ms t n = some f → methOf P t n = some f
  ext : ∀ f e, lookN D.ext f = some e → ∀ φ as vs a, VRs φ as vs → e as = some a → ∃ v, VR φ a v ∧ ∀ w, (callFunc f vs.toArray).run P w = .ok (.value v) w
  xst : ∀ f e, lookN D.xst f = some e → ∀ φ s w as vs a s', Rel φ s w → VRs φ as vs → e s as = some (a, s') →
    ∃ φ' w' v, (callFunc f vs.toArray).run P w = .ok (.value v) w' ∧ Stp φ s w φ' s' w' ∧ Rel φ' s' w' ∧ VR φ' a v

theorem TabOk.mk' {ext : List (FuncId × (List AV → Option AV))}
    (he : ∀ f e, lookN ext f = some e → ∀ φ as vs a, VRs φ as vs → e as = some a → ∃ v, VR φ a v ∧ ∀ w, (callFunc f vs.toArray).run P w = .ok (.value v) w) : TabOk P (Tab.mk' P ext) where
  ty := fun t i h => by
    simp only [Tab.mk', tabOf_get] at h
    split at h
    · exact h
    · simp at h
  fn := fun t i h => by
    simp only [Tab.mk', tabOf_get] at h
    split at h
    · exact h
    · simp at h
  ms := fun _ _ _ h => h
  ext := he
  xst := fun _ _ h => by simp [Tab.mk', lookN] at h

theorem tyOf_spec {t : TypeId} {i : TyI} (h : tyOf P t = some i) : ∃ ti d, P.info? t = some ti ∧ P.underlying t = some d ∧ i.d = tdOf d ∧ i.size = ti.size ∧ i.bytes = ti.bytes ∧ i.zero = zeroOf ti.zero ∧
    (i.held = false → (∀ fs, d = .struct fs → P.stoodInHeld t = false ∧ P.eqGuardType P.depth t = false)) := by
  unfold tyOf at h
  split at h
  · rename_i ti d h1 h2
    simp at h
    subst h
    refine ⟨ti, d, ?_, h2, rfl, rfl, rfl, rfl, ?_⟩
    · unfold Tables.info?
      have : t < P.types.size := (Array.getElem?_eq_some_iff.1 h1).1
      rw [if_pos this]; exact h1
    · intro hh fs hd
      subst hd
      simpa using hh
  · simp at h

section runs
variable (hD : TabOk P D)
include hD

theorem run_under {t : TypeId} {i : TyI} (h : D.ty.get t = some i) (w : World) : ∃ d, P.underlying t = some d ∧ i.d = tdOf d ∧ (underlying t).run P w = .ok d w := by
  obtain ⟨ti, d, h1, h2, h3, _⟩ := tyOf_spec (hD.ty t i h)
  exact ⟨d, h2, h3, by simp [underlying, h2]⟩

theorem run_info {t : TypeId} {i : TyI} (h : D.ty.get t = some i) (w : World) : ∃ ti, P.info? t = some ti ∧ i.size = ti.size ∧ i.bytes = ti.bytes ∧ i.zero = zeroOf ti.zero ∧ (typeInfo t).run P w = .ok ti w := by
  obtain ⟨ti, d, h1, h2, h3, h4, h5, h6, _⟩ := tyOf_spec (hD.ty t i h)
  exact ⟨ti, h1, h4, h5, h6, by simp [typeInfo, h1]⟩

theorem run_size {t : TypeId} {i : TyI} (h : D.ty.get t = some i) (w : World) : (sizeOf t).run P w = .ok i.size w := by
  obtain ⟨ti, _, h2, _, _, h3⟩ := run_info hD h w
  simp [sizeOf, h3, h2]

theorem run_zero {t : TypeId} {i : TyI} {z : AV} (h : D.ty.get t = some i) (hz : i.zero = some z) (w : World) : ∃ v, (zeroValue t).run P w = .ok v w ∧ constAV v = some z := by
  obtain ⟨ti, _, _, _, h2, h3⟩ := run_info hD h w
  rw [hz] at h2
  unfold zeroOf at h2
  split at h2
  · rename_i v hv
    exact ⟨v, by simp [zeroValue, h3, hv], h2.symm⟩
  · simp at h2

def TD.isAgg : TD → Bool
  | .struct _ | .array _ _ => true
  | _ => false

theorem run_agg {t : TypeId} {i : TyI} (h : D.ty.get t = some i) (w : World) : (isAgg t).run P w = .ok i.d.isAgg w := by
  obtain ⟨d, h1, h2, h3⟩ := run_under hD h w
  rw [h2]
  unfold isAgg
  simp only [Sem.run_bind, h3, Result.andThen_ok]
  cases d <;> rfl

end runs

/-! ### New blocks -/
def Phi.setB (φ : Phi) (b : Nat) (x : Nat × Nat) : Phi := { φ with blk := fun i => if i = b then some x else φ.blk i }

theorem Phi.le_setB {φ : Phi} {b : Nat} {x : Nat × Nat} (h : φ.blk b = none) : φ.le (φ.setB b x) :=
  ⟨fun c y hc => by
    have : c ≠ b := by rintro rfl; rw [h] at hc; simp at hc
    simp [Phi.setB, this, hc], fun _ _ h => h, fun _ _ h => h, rfl⟩

theorem Rel.dom_lt (h : Rel φ s w) {b : Nat} (hb : (s.h.get b).isSome = true) : b < s.nx := by
  rcases Nat.lt_or_ge b s.nx with h' | h'
  · exact h'
  · obtain ⟨o, ho⟩ := Option.isSome_iff_exists.1 hb
    obtain ⟨r, sh, ro, h1, _⟩ := h.obj b o ho
    rw [h.fresh b h'] at h1; simp at h1

theorem Rel.real_lt (h : Rel φ s w) {b r sh : Nat} (hb : (s.h.get b).isSome = true) (hr : φ.blk b = some (r, sh)) : r < w.heap.size := by
  obtain ⟨o, ho⟩ := Option.isSome_iff_exists.1 hb
  obtain ⟨r', sh', ro, h1, h2, _⟩ := h.obj b o ho
  rw [hr] at h1
  simp at h1
  obtain ⟨rfl, rfl⟩ := h1
  exact (Array.getElem?_eq_some_iff.1 h2).1

/-- A block of its own, at a number that nothing bears yet. -/
theorem Rel.put_new (h : Rel φ s w) {b : Nat} {o : AObj} {ro : Obj} (hb : φ.blk b = none) (hbn : b = s.nx) {s' : St} (hs : s'.h = s.h.set b o) (hnx : s.nx ≤ s'.nx) (hbx : b < s'.nx) (hnc : s'.nc = s.nc)
    (ho : OR (φ.setB b (w.heap.size, 0)) 0 o ro) (hfs : s'.fs = s.fs := by rfl) :
    Rel (φ.setB b (w.heap.size, 0)) s' { w with heap := w.heap.push ro } ∧ Stp φ s w (φ.setB b (w.heap.size, 0)) s' { w with heap := w.heap.push ro } := by
  have hnot : s.h.get b = none := by
    cases hx : s.h.get b with
    | none => rfl
    | some x => obtain ⟨r, sh, ro, h1, _⟩ := h.obj b x hx; rw [hb] at h1; simp at h1
  have hle : φ.le (φ.setB b (w.heap.size, 0)) := Phi.le_setB hb
  have hG : GB ≤ b ∨ b < GB := Nat.lt_or_ge b GB |>.symm
  have hGB : ¬ b < GB := fun hc => by rw [h.glob b hc] at hb; simp at hb
  constructor
  · constructor
    · intro c x hc
      rw [hs, PT.get_set] at hc
      by_cases e : c = b
      · subst e
        simp at hc
        subst hc
        exact ⟨w.heap.size, 0, ro, by simp [Phi.setB], by simp, ho⟩
      · rw [if_neg e] at hc
        obtain ⟨r, sh, ro', h1, h2, h3⟩ := h.obj c x hc
        refine ⟨r, sh, ro', by simp [Phi.setB, e, h1], ?_, h3.mono hle⟩
        have hlt := (Array.getElem?_eq_some_iff.1 h2).1
        simp [Array.getElem?_push, Nat.ne_of_lt hlt, h2]
    · intro c c' r sh sh' hc hc' h1 h2
      rw [hs, PT.get_set] at hc hc'
      by_cases e : c = b
      · by_cases e' : c' = b
        · rw [e, e']
        · rw [if_neg e'] at hc'
          simp [Phi.setB, e] at h1
          simp [Phi.setB, e'] at h2
          have := h.real_lt hc' h2
          omega
      · rw [if_neg e] at hc
        by_cases e' : c' = b
        · simp [Phi.setB, e'] at h2
          simp [Phi.setB, e] at h1
          have := h.real_lt hc h1
          omega
        · rw [if_neg e'] at hc'
          simp [Phi.setB, e] at h1
          simp [Phi.setB, e'] at h2
          exact h.inj c c' r sh sh' hc hc' h1 h2
    · intro c hc
      have : c ≠ b := by omega
      simp [Phi.setB, this, h.fresh c (by omega)]
    · intro k hk; exact h.freshc k (by omega)
    · intro g hg
      have : g ≠ b := by omega
      simp [Phi.setB, this, h.glob g hg]
    · exact Nat.le_trans h.gnx hnx
    · rw [hfs]; exact h.facts
  · constructor
    · exact hle
    · intro c r sh hc h1
      rw [hs, PT.get_set] at hc
      by_cases e : c = b
      · simp [Phi.setB, e] at h1; exact .inl (by omega)
      · rw [if_neg e] at hc
        simp [Phi.setB, e] at h1
        exact .inr ⟨c, sh, hc, h1⟩
    · intro r hr _
      simp [Array.getElem?_push, Nat.ne_of_lt hr]
    · simp
    · rfl
    · rfl
    · rfl
    · exact hnx
    · omega
    · intro c hc
      have : c ≠ b := by omega
      simp [Phi.setB, this]

theorem CellsR.of_list {vs : List AV} {us : List Value} (h : VRs φ vs us) : CellsR φ 0 (PT.setAll .nil 0 vs) vs.length us.toArray := by
  refine ⟨by simp [h.length], fun i hi => ?_⟩
  obtain ⟨u, h1, h2⟩ := h.get i _ (List.getElem?_eq_getElem hi)
  refine ⟨_, u, ?_, by simpa using h1, h2⟩
  rw [PT.get_setAll, if_pos (by omega)]
  simp [hi]

/-- 'newRow'. -/
theorem new_cells (h : Rel φ s w) {vs : List AV} {us : List Value} (hv : VRs φ vs us) (e : TypeId) :
    ∃ φ' w', (newRow e us.toArray).run P w = .ok ⟨w.heap.size, 0, none⟩ w' ∧ Stp φ s w φ' (newCells s vs).2 w' ∧ Rel φ' (newCells s vs).2 w' ∧ φ'.blk (newCells s vs).1 = some (w.heap.size, 0) := by
  have hfr := h.fresh s.nx (Nat.le_refl _)
  have hle : φ.le (φ.setB s.nx (w.heap.size, 0)) := Phi.le_setB hfr
  have := h.put_new (b := s.nx) (o := .cells (PT.setAll .nil 0 vs) vs.length none) (ro := .cells us.toArray e (0, 0)) hfr rfl (s' := (newCells s vs).2) rfl (by simp [newCells, St.new]) (by simp [newCells, St.new]) rfl
    (.cells ((CellsR.of_list hv).mono hle))
  exact ⟨_, _, by simp [newRow], this.2, this.1, by simp [Phi.setB, newCells, St.new]⟩

theorem new_other (h : Rel φ s w) {o : AObj} {ro : Obj} (ho : OR φ 0 o ro) :
    ∃ φ' w', (newObj ro).run P w = .ok w.heap.size w' ∧ Stp φ s w φ' (s.new o).2 w' ∧ Rel φ' (s.new o).2 w' ∧ φ'.blk (s.new o).1 = some (w.heap.size, 0) := by
  have hfr := h.fresh s.nx (Nat.le_refl _)
  have hle : φ.le (φ.setB s.nx (w.heap.size, 0)) := Phi.le_setB hfr
  have := h.put_new (b := s.nx) (o := o) (ro := ro) hfr rfl (s' := (s.new o).2) rfl (by simp [St.new]) (by simp [St.new]) rfl (ho.mono hle)
  exact ⟨_, _, by simp, this.2, this.1, by simp [Phi.setB, St.new]⟩

/-! ### Blocks that are changed -/
/-- An object in the place of another one. -/
theorem Rel.put_old (h : Rel φ s w) {b r sh : Nat} {o : AObj} {ro : Obj} (hb : (s.h.get b).isSome = true) (hr : φ.blk b = some (r, sh)) (ho : OR φ sh o ro) :
    Rel φ { s with h := s.h.set b o } { w with heap := w.heap.setIfInBounds r ro } ∧ Stp φ s w φ { s with h := s.h.set b o } { w with heap := w.heap.setIfInBounds r ro } := by
  have hlt := h.real_lt hb hr
  constructor
  · constructor
    · intro c x hc
      simp only [PT.get_set] at hc
      by_cases e : c = b
      · subst e
        simp at hc
        subst hc
        exact ⟨r, sh, ro, hr, by simp [hlt], ho⟩
      · rw [if_neg e] at hc
        obtain ⟨r', sh', ro', h1, h2, h3⟩ := h.obj c x hc
        refine ⟨r', sh', ro', h1, ?_, h3⟩
        have : r ≠ r' := by
          rintro rfl
          exact e (h.inj c b r sh' sh (by simp [hc]) hb h1 hr)
        rw [Array.getElem?_setIfInBounds_ne this]; exact h2
    · intro c c' r' sh1 sh2 hc hc' h1 h2
      simp only [PT.get_set] at hc hc'
      refine h.inj c c' r' sh1 sh2 ?_ ?_ h1 h2
      · by_cases e : c = b
        · rw [e]; exact hb
        · rw [if_neg e] at hc; exact hc
      · by_cases e : c' = b
        · rw [e]; exact hb
        · rw [if_neg e] at hc'; exact hc'
    · exact h.fresh
    · exact h.freshc
    · exact h.glob
    · exact h.gnx
    · exact h.facts
  · constructor
    · exact Phi.le.rfl' φ
    · intro c r' sh' hc h1
      simp only [PT.get_set] at hc
      refine .inr ⟨c, sh', ?_, h1⟩
      by_cases e : c = b
      · rw [e]; exact hb
      · rw [if_neg e] at hc; exact hc
    · intro r' hr' hn
      have : r ≠ r' := by rintro rfl; exact hn b sh hb hr
      simp [Array.getElem?_setIfInBounds_ne this]
    · simp
    · rfl
    · rfl
    · rfl
    · exact Nat.le_refl _
    · exact Nat.le_refl _
    · exact fun _ _ => rfl

end Go.Eng
