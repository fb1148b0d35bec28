/-
  The abstract interpreter, its soundness: operands, tables, blocks.
  The abstract interpreter, its soundness: cells that are read and written.
-/
import Derived.Test.YtnhlppginnojfaaDoorEng4
import Derived.Laws.CopyRow
set_option linter.unusedVariables false
set_option linter.unusedSimpArgs false
namespace Go.Eng
variable {P : Program} {D : Tab} {φ : Phi} {s : St} {w : World} {T : PT AV} {ρ : Operand → Value}
theorem scalarAV_ok {v : Value} {a : AV} (h : scalarAV v = some a) : VR φ a v := by
 unfold scalarAV at h
 split at h <;> simp at h <;> subst h <;> constructor
theorem scalarsAV_ok : ∀ {l : List Value} {a : List AV}, scalarsAV l = some a → VRs φ a l
 | [], a, h => by simp [scalarsAV] at h; subst h; exact .nil
 | v :: r, a, h => by
  simp only [scalarsAV] at h
  split at h <;> simp at h
  subst h
  rename_i h1 h2
  exact .cons (scalarAV_ok h1) (scalarsAV_ok h2)
theorem constAV_ok {v : Value} {a : AV} (h : constAV v = some a) : VR φ a v := by
 unfold constAV at h
 split at h
 ·simp only [Option.map_eq_some_iff] at h
  obtain ⟨l, hl, rfl⟩ := h
  have := VR.agg (scalarsAV_ok (φ := φ) hl)
  simpa using this
 ·simp only [Option.map_eq_some_iff] at h
  obtain ⟨l, hl, rfl⟩ := h
  have := VR.tuple (scalarsAV_ok (φ := φ) hl)
  simpa using this
 ·rename_i f a b
  split at h
  ·rename_i h1 h2
   simp at h; subst h
   have e1 : a = #[] := by simpa using h1
   have e2 : b = #[] := by simpa using h2
   subst e1; subst e2
   exact VR.func _ .nil .nil
  ·simp at h
 ·exact scalarAV_ok h
structure EvR (φ : Phi) (T : PT AV) (ρ : Operand → Value) : Prop where
 tmp : ∀ i a, T.get i = some a → VR φ a (ρ (.tmp i))
 const : ∀ v, ρ (.const v) = v
 global : ∀ g, ρ (.global g) = .pointer (some ⟨g, 0, none⟩)
 func : ∀ f, ρ (.func f) = .func (.func f) #[] #[]
theorem EvR.of_act {a : Act} (h : TR φ T a.tmps) : EvR φ T a.eval where
 tmp := fun i x hi => by
  obtain ⟨v, h1, h2⟩ := h i x hi
  simpa [Act.eval, Array.getD_eq_getD_getElem?, h1] using h2
 const := fun _ => rfl
 global := fun _ => rfl
 func := fun _ => rfl
theorem blt_true {a b : Nat} (h : Nat.blt a b = true) : a < b := by
 have : a + 1 ≤ b := by simpa [Nat.blt, Nat.ble_eq] using h
 omega
theorem ble_true {a b : Nat} (h : Nat.ble a b = true) : a ≤ b := by simpa [Nat.ble_eq] using h
theorem beq_true {a b : Nat} (h : Nat.beq a b = true) : a = b := by simpa [Nat.beq_eq] using h
theorem ev_ok (hr : Rel φ s w) (he : EvR φ T ρ) {x : Operand} {a : AV} (h : ev T x = some a) : VR φ a (ρ x) := by
 cases x with
 | tmp i => exact he.tmp i a h
 | const v => rw [he.const]; exact constAV_ok h
 | global g =>
  rw [he.global]
  simp only [ev] at h
  split at h <;> simp at h
  subst h
  rename_i hb
  simpa using VR.ptr (hr.glob g (blt_true hb)) 0
 | func f => simp [ev] at h; subst h; rw [he.func]; exact VR.func f .nil .nil
theorem evAll_ok (hr : Rel φ s w) (he : EvR φ T ρ) : ∀ {l : List Operand} {as : List AV}, evAll T l = some as → VRs φ as (l.map ρ)
 | [], as, h => by simp [evAll] at h; subst h; exact .nil
 | x :: r, as, h => by
  simp only [evAll] at h
  split at h <;> simp at h
  subst h
  rename_i h1 h2
  exact .cons (ev_ok hr he h1) (evAll_ok hr he h2)
theorem tabOf_get {α : Type} (f : Nat → Option α) : ∀ (n k : Nat), (tabOf f n).get k = if k < n then f k else none := by
 intro n
 induction n with
 | zero => intro k; simp [tabOf]
 | succ n ih =>
  intro k
  simp only [tabOf]
  cases hn : f n with
  | none =>
   simp only []
   rw [ih]
   by_cases h : k = n
   ·subst h; simp [hn]
   ·by_cases h' : k < n
    ·rw [if_pos h', if_pos (by omega)]
    ·rw [if_neg h', if_neg (by omega)]
  | some x =>
   simp only []
   rw [PT.get_set, ih]
   by_cases h : k = n
   ·subst h; simp [hn]
   ·rw [if_neg h]
    by_cases h' : k < n
    ·rw [if_pos h', if_pos (by omega)]
    ·rw [if_neg h', if_neg (by omega)]
structure TabOk (P : Program) (D : Tab) : Prop where
 ty : ∀ t i, D.ty.get t = some i → tyOf P t = some i
 fn : ∀ f i, D.fn.get f = some i → fnOf P f = some i
 ms : ∀ t n f, D.ms t n = some f → methOf P t n = some f
 ext : ∀ f e, lookN D.ext f = some e → ∀ φ as vs a, VRs φ as vs → e as = some a → ∃ v, VR φ a v ∧ ∀ w, (callFunc f vs.toArray).run P w = .ok (.value v) w
 xst : ∀ f e, lookN D.xst f = some e → ∀ φ s w as vs a s', Rel φ s w → VRs φ as vs → e s as = some (a, s') →
  ∃ φ' w' v, (callFunc f vs.toArray).run P w = .ok (.value v) w' ∧ Stp φ s w φ' s' w' ∧ Rel φ' s' w' ∧ VR φ' a v
theorem TabOk.mk' {ext : List (FuncId × (List AV → Option AV))}
  (he : ∀ f e, lookN ext f = some e → ∀ φ as vs a, VRs φ as vs → e as = some a → ∃ v, VR φ a v ∧ ∀ w, (callFunc f vs.toArray).run P w = .ok (.value v) w) : TabOk P (Tab.mk' P ext) where
 ty := fun t i h => by
  simp only [Tab.mk', tabOf_get] at h
  split at h
  ·exact h
  ·simp at h
 fn := fun t i h => by
  simp only [Tab.mk', tabOf_get] at h
  split at h
  ·exact h
  ·simp at h
 ms := fun _ _ _ h => h
 ext := he
 xst := fun _ _ h => by simp [Tab.mk', lookN] at h
theorem tyOf_spec {t : TypeId} {i : TyI} (h : tyOf P t = some i) : ∃ ti d, P.info? t = some ti ∧ P.underlying t = some d ∧ i.d = tdOf d ∧ i.size = ti.size ∧ i.bytes = ti.bytes ∧ i.zero = zeroOf ti.zero ∧
  (i.held = false → (∀ fs, d = .struct fs → P.stoodInHeld t = false ∧ P.eqGuardType P.depth t = false)) := by
 unfold tyOf at h
 split at h
 ·rename_i ti d h1 h2
  simp at h
  subst h
  refine ⟨ti, d, ?_, h2, rfl, rfl, rfl, rfl, ?_⟩
  ·unfold Tables.info?
   have : t < P.types.size := (Array.getElem?_eq_some_iff.1 h1).1
   rw [if_pos this]; exact h1
  ·intro hh fs hd
   subst hd
   simpa using hh
 ·simp at h
section runs
variable (hD : TabOk P D)
include hD
theorem run_under {t : TypeId} {i : TyI} (h : D.ty.get t = some i) (w : World) : ∃ d, P.underlying t = some d ∧ i.d = tdOf d ∧ (underlying t).run P w = .ok d w := by
 obtain ⟨ti, d, h1, h2, h3, _⟩ := tyOf_spec (hD.ty t i h)
 exact ⟨d, h2, h3, by simp [underlying, h2]⟩
theorem run_info {t : TypeId} {i : TyI} (h : D.ty.get t = some i) (w : World) : ∃ ti, P.info? t = some ti ∧ i.size = ti.size ∧ i.bytes = ti.bytes ∧ i.zero = zeroOf ti.zero ∧ (typeInfo t).run P w = .ok ti w := by
 obtain ⟨ti, d, h1, h2, h3, h4, h5, h6, _⟩ := tyOf_spec (hD.ty t i h)
 exact ⟨ti, h1, h4, h5, h6, by simp [typeInfo, h1]⟩
theorem run_size {t : TypeId} {i : TyI} (h : D.ty.get t = some i) (w : World) : (sizeOf t).run P w = .ok i.size w := by
 obtain ⟨ti, _, h2, _, _, h3⟩ := run_info hD h w
 simp [sizeOf, h3, h2]
theorem run_zero {t : TypeId} {i : TyI} {z : AV} (h : D.ty.get t = some i) (hz : i.zero = some z) (w : World) : ∃ v, (zeroValue t).run P w = .ok v w ∧ constAV v = some z := by
 obtain ⟨ti, _, _, _, h2, h3⟩ := run_info hD h w
 rw [hz] at h2
 unfold zeroOf at h2
 split at h2
 ·rename_i v hv
  exact ⟨v, by simp [zeroValue, h3, hv], h2.symm⟩
 ·simp at h2
def TD.isAgg : TD → Bool
 | .struct _ | .array _ _ => true
 | _ => false
theorem run_agg {t : TypeId} {i : TyI} (h : D.ty.get t = some i) (w : World) : (isAgg t).run P w = .ok i.d.isAgg w := by
 obtain ⟨d, h1, h2, h3⟩ := run_under hD h w
 rw [h2]
 unfold isAgg
 simp only [Sem.run_bind, h3, Result.andThen_ok]
 cases d <;> rfl
end runs
def Phi.setB (φ : Phi) (b : Nat) (x : Nat × Nat) : Phi := { φ with blk := fun i => if i = b then some x else φ.blk i }
theorem Phi.le_setB {φ : Phi} {b : Nat} {x : Nat × Nat} (h : φ.blk b = none) : φ.le (φ.setB b x) :=
 ⟨fun c y hc => by
  have : c ≠ b := by rintro rfl; rw [h] at hc; simp at hc
  simp [Phi.setB, this, hc], fun _ _ h => h, fun _ _ h => h, rfl⟩
theorem Rel.dom_lt (h : Rel φ s w) {b : Nat} (hb : (s.h.get b).isSome = true) : b < s.nx := by
 rcases Nat.lt_or_ge b s.nx with h' | h'
 ·exact h'
 ·obtain ⟨o, ho⟩ := Option.isSome_iff_exists.1 hb
  rcases h.obj b o ho with hv | ⟨r, sh, ro, h1, _⟩
  ·exact Nat.lt_of_lt_of_le hv.lt h.gnx
  ·rw [h.fresh b h'] at h1; simp at h1
theorem Rel.real_lt (h : Rel φ s w) {b r sh : Nat} (hb : (s.h.get b).isSome = true) (hr : φ.blk b = some (r, sh)) : r < w.heap.size := by
 obtain ⟨o, ho⟩ := Option.isSome_iff_exists.1 hb
 obtain ⟨ro, h2, _⟩ := h.objS ho hr
 exact (Array.getElem?_eq_some_iff.1 h2).1
theorem Rel.put_new (h : Rel φ s w) {b : Nat} {o : AObj} {ro : Obj} (hb : φ.blk b = none) (hbn : b = s.nx) {s' : St} (hs : s'.h = s.h.set b o) (hnx : s.nx ≤ s'.nx) (hbx : b < s'.nx) (hnc : s'.nc = s.nc)
  (ho : OR (φ.setB b (w.heap.size, 0)) 0 o ro) (hfs : s'.fs = s.fs := by rfl) :
  Rel (φ.setB b (w.heap.size, 0)) s' { w with heap := w.heap.push ro } ∧ Stp φ s w (φ.setB b (w.heap.size, 0)) s' { w with heap := w.heap.push ro } := by
 have hnot : s.h.get b = none := by
  cases hx : s.h.get b with
  | none => rfl
  | some x =>
   rcases h.obj b x hx with hv | ⟨r, sh, ro, h1, _⟩
   ·have := hv.lt; have := h.gnx; omega
   ·rw [hb] at h1; simp at h1
 have hle : φ.le (φ.setB b (w.heap.size, 0)) := Phi.le_setB hb
 have hGB : ¬ b < GG := fun hc => by rw [h.glob b hc] at hb; simp at hb
 constructor
 ·constructor
  ·intro c x hc
   rw [hs, PT.get_set] at hc
   by_cases e : c = b
   ·subst e
    simp at hc
    subst hc
    exact .inr ⟨w.heap.size, 0, ro, by simp [Phi.setB], by simp, ho⟩
   ·rw [if_neg e] at hc
    rcases h.obj c x hc with hv | ⟨r, sh, ro', h1, h2, h3⟩
    ·exact .inl (hv.mono hle.env (by simp [Phi.setB, e, hv.none]))
    refine .inr ⟨r, sh, ro', by simp [Phi.setB, e, h1], ?_, h3.mono hle⟩
    have hlt := (Array.getElem?_eq_some_iff.1 h2).1
    simp [Array.getElem?_push, Nat.ne_of_lt hlt, h2]
  ·intro c c' r sh sh' hc hc' h1 h2
   rw [hs, PT.get_set] at hc hc'
   by_cases e : c = b
   ·by_cases e' : c' = b
    ·rw [e, e']
    ·rw [if_neg e'] at hc'
     simp [Phi.setB, e] at h1
     simp [Phi.setB, e'] at h2
     have := h.real_lt hc' h2
     omega
   ·rw [if_neg e] at hc
    by_cases e' : c' = b
    ·simp [Phi.setB, e'] at h2
     simp [Phi.setB, e] at h1
     have := h.real_lt hc h1
     omega
    ·rw [if_neg e'] at hc'
     simp [Phi.setB, e] at h1
     simp [Phi.setB, e'] at h2
     exact h.inj c c' r sh sh' hc hc' h1 h2
  ·intro c hc
   have : c ≠ b := by omega
   simp [Phi.setB, this, h.fresh c (by omega)]
  ·intro k hk; exact h.freshc k (by omega)
  ·intro g hg
   have : g ≠ b := by omega
   simp [Phi.setB, this, h.glob g hg]
  ·exact Nat.le_trans h.gnx hnx
  ·rw [hfs]; exact h.facts
 ·constructor
  ·exact hle
  ·intro c r sh hc h1
   rw [hs, PT.get_set] at hc
   by_cases e : c = b
   ·simp [Phi.setB, e] at h1; exact .inl (by omega)
   ·rw [if_neg e] at hc
    simp [Phi.setB, e] at h1
    exact .inr ⟨c, sh, hc, h1⟩
  ·intro c r sh hc h1
   by_cases e : c = b
   ·simp [Phi.setB, e] at h1; exact .inl (by omega)
   ·rw [ownB.eq (h := s.h) (b := c) (by rw [hs, PT.get_set, if_neg e])] at hc
    simp [Phi.setB, e] at h1
    exact .inr ⟨c, sh, hc, h1⟩
  ·intro r hr _
   simp [Array.getElem?_push, Nat.ne_of_lt hr]
  ·simp
  ·rfl
  ·rfl
  ·rfl
  ·exact hnx
  ·omega
  ·intro c hc
   have : c ≠ b := by omega
   simp [Phi.setB, this]
  ·intro r arr e fz hr
   have hlt := (Array.getElem?_eq_some_iff.1 hr).1
   exact ⟨arr, fz, by simp [Array.getElem?_push, Nat.ne_of_lt hlt, hr], rfl⟩
  ·exact fun _ => Nat.le_refl _
theorem CellsR.of_list {vs : List AV} {us : List Value} (h : VRs φ vs us) : CellsR φ 0 (PT.setAll .nil 0 vs) vs.length us.toArray := by
 refine CellsR.of_total (by simp [h.length]) fun i hi => ?_
 obtain ⟨u, h1, h2⟩ := h.get i _ (List.getElem?_eq_getElem hi)
 refine ⟨_, u, ?_, by simpa using h1, h2⟩
 rw [PT.get_setAll, if_pos (by omega)]
 simp [hi]
theorem new_cells (h : Rel φ s w) {vs : List AV} {us : List Value} (hv : VRs φ vs us) (e : TypeId) :
  ∃ φ' w', (newRow e us.toArray).run P w = .ok ⟨w.heap.size, 0, none⟩ w' ∧ Stp φ s w φ' (newCells s vs).2 w' ∧ Rel φ' (newCells s vs).2 w' ∧ φ'.blk (newCells s vs).1 = some (w.heap.size, 0) := by
 have hfr := h.fresh s.nx (Nat.le_refl _)
 have hle : φ.le (φ.setB s.nx (w.heap.size, 0)) := Phi.le_setB hfr
 have := h.put_new (b := s.nx) (o := .cells (PT.setAll .nil 0 vs) vs.length none) (ro := .cells us.toArray e (0, 0)) hfr rfl (s' := (newCells s vs).2) rfl (by simp [newCells, St.new]) (by simp [newCells, St.new]) rfl
  (.cells ((CellsR.of_list hv).mono hle))
 exact ⟨_, _, by simp [newRow], this.2, this.1, by simp [Phi.setB, newCells, St.new]⟩
theorem new_other (h : Rel φ s w) {o : AObj} {ro : Obj} (ho : OR φ 0 o ro) :
  ∃ φ' w', (newObj ro).run P w = .ok w.heap.size w' ∧ Stp φ s w φ' (s.new o).2 w' ∧ Rel φ' (s.new o).2 w' ∧ φ'.blk (s.new o).1 = some (w.heap.size, 0) := by
 have hfr := h.fresh s.nx (Nat.le_refl _)
 have hle : φ.le (φ.setB s.nx (w.heap.size, 0)) := Phi.le_setB hfr
 have := h.put_new (b := s.nx) (o := o) (ro := ro) hfr rfl (s' := (s.new o).2) rfl (by simp [St.new]) (by simp [St.new]) rfl (ho.mono hle)
 exact ⟨_, _, by simp, this.2, this.1, by simp [Phi.setB, St.new]⟩
theorem Rel.put_old (h : Rel φ s w) {b r sh : Nat} {o : AObj} {ro : Obj} (hbo : ownB s.h b = true) (hr : φ.blk b = some (r, sh)) (ho : OR φ sh o ro)
  (hsp : ∀ (arr : Array Value) (e : TypeId) (fz : Nat × Nat), w.heap[r]? = some (.cells arr e fz) → ∃ arr' fz', ro = .cells arr' e fz' ∧ arr'.size = arr.size) :
  Rel φ { s with h := s.h.set b o } { w with heap := w.heap.setIfInBounds r ro } ∧ Stp φ s w φ { s with h := s.h.set b o } { w with heap := w.heap.setIfInBounds r ro } := by
 have hb := ownB.some hbo
 have hlt := h.real_lt hb hr
 constructor
 ·constructor
  ·intro c x hc
   simp only [PT.get_set] at hc
   by_cases e : c = b
   ·subst e
    simp at hc
    subst hc
    exact .inr ⟨r, sh, ro, hr, by simp [hlt], ho⟩
   ·rw [if_neg e] at hc
    rcases h.obj c x hc with hv | ⟨r', sh', ro', h1, h2, h3⟩
    ·exact .inl hv
    refine .inr ⟨r', sh', ro', h1, ?_, h3⟩
    have : r ≠ r' := by
     rintro rfl
     exact e (h.inj c b r sh' sh (by simp [hc]) hb h1 hr)
    rw [Array.getElem?_setIfInBounds_ne this]; exact h2
  ·intro c c' r' sh1 sh2 hc hc' h1 h2
   simp only [PT.get_set] at hc hc'
   refine h.inj c c' r' sh1 sh2 ?_ ?_ h1 h2
   ·by_cases e : c = b
    ·rw [e]; exact hb
    ·rw [if_neg e] at hc; exact hc
   ·by_cases e : c' = b
    ·rw [e]; exact hb
    ·rw [if_neg e] at hc'; exact hc'
  ·exact h.fresh
  ·exact h.freshc
  ·exact h.glob
  ·exact h.gnx
  ·exact h.facts
 ·constructor
  ·exact Phi.le.rfl' φ
  ·intro c r' sh' hc h1
   simp only [PT.get_set] at hc
   refine .inr ⟨c, sh', ?_, h1⟩
   by_cases e : c = b
   ·rw [e]; exact hb
   ·rw [if_neg e] at hc; exact hc
  ·intro c r' sh' hc h1
   refine .inr ⟨c, sh', ?_, h1⟩
   by_cases e : c = b
   ·rw [e]; exact hbo
   ·rw [ownB.eq (h := s.h) (b := c) (by simp only [PT.get_set]; rw [if_neg e])] at hc; exact hc
  ·intro r' hr' hn
   have : r ≠ r' := by rintro rfl; exact hn b sh hbo hr
   simp [Array.getElem?_setIfInBounds_ne this]
  ·simp
  ·rfl
  ·rfl
  ·rfl
  ·exact Nat.le_refl _
  ·exact Nat.le_refl _
  ·exact fun _ _ => rfl
  ·intro r' arr e fz hr'
   by_cases e' : r = r'
   ·subst e'
    obtain ⟨arr', fz', h1, h2⟩ := hsp arr e fz hr'
    subst h1
    exact ⟨arr', fz', by simp [hlt], h2⟩
   ·exact ⟨arr, fz, by rw [Array.getElem?_setIfInBounds_ne e']; exact hr', rfl⟩
  ·exact fun _ => Nat.le_refl _
end Go.Eng

namespace Go.Eng
variable {P : Program} {D : Tab} {φ : Phi} {s : St} {w : World} {T : PT AV} {ρ : Operand → Value}
theorem setRow_eq {w : World} {g : Nat} {cur arr : Array Value} {t : TypeId} {fr : Nat × Nat} (hg : w.heap[g]? = some (.cells cur t fr)) :
  w.setRow g arr = { w with heap := w.heap.setIfInBounds g (.cells arr t fr) } := by
 have hlt : g < w.heap.size := (Array.getElem?_eq_some_iff.1 hg).1
 have hv : w.heap[g] = .cells cur t fr := (Array.getElem?_eq_some_iff.1 hg).2
 unfold World.setRow
 cases w with
 | mk heap tape drawn os output =>
  congr 1
  apply Array.ext
  ·simp
  ·intro k h1 h2
   simp only [Array.getElem_modify]
   split
   ·rename_i hk; subst hk; simp at hv; simp [hv]
   ·rename_i hk; rw [Array.getElem_setIfInBounds_ne (by simp at h1; omega) hk]
theorem Rel.cells (h : Rel φ s w) {b : Nat} {c : PT AV} {n : Nat} {tl : Option (Nat × Nat)} (hb : s.h.get b = some (.cells c n tl)) :
  ∃ r sh arr e fz, φ.blk b = some (r, sh) ∧ w.heap[r]? = some (.cells arr e fz) ∧ CellsR φ sh c n arr ∧
   (tl = none ∧ fz = (0, 0) ∨ (∃ k z cp, tl = some (k, z) ∧ φ.cap k = some cp ∧ arr.size = sh + cp * z ∧ (fz = (0, 0) ∨ z = 1 ∧ arr.size ≤ fz.1)) ∨ ∃ k, tl = some (k, 0)) := by
 obtain ⟨r, sh, ro, h1, h2, h3⟩ := h.objN hb (by simp)
 cases h3 with
 | cells hc => exact ⟨r, sh, _, _, _, h1, h2, hc, .inl ⟨rfl, rfl⟩⟩
 | tail hc hk hs hf => exact ⟨r, sh, _, _, _, h1, h2, hc, .inr (.inl ⟨_, _, _, rfl, hk, hs, hf⟩)⟩
 | rom hc => exact ⟨r, sh, _, _, _, h1, h2, hc, .inr (.inr ⟨_, rfl⟩)⟩
theorem storeCells_run (g o : Nat) (t : TypeId) (fz : Nat × Nat) : ∀ (vs : List Value) (i : Nat) (cur : Array Value) (w : World), w.heap[g]? = some (.cells cur t fz) → (fz = (0, 0) ∨ cur.size ≤ fz.1) → o + i + vs.length ≤ cur.size → (∀ v ∈ vs, v.oneCell' = true) →
  (storeCells ⟨g, o, none⟩ vs i).run P w = .ok () (w.setRow g (cur.toList.take (o + i) ++ vs ++ cur.toList.drop (o + i + vs.length)).toArray)
 | [], i, cur, w, hg, _, _, _ => by
  simp only [storeCells, List.append_nil, List.length_nil, Nat.add_zero, List.take_append_drop, Array.toArray_toList]
  rw [setRow_self w g cur t fz hg]
  rfl
 | v :: rest, i, cur, w, hg, hf, hl, h1 => by
  have hi : o + i < cur.size := by simp at hl; omega
  have hadd : (⟨g, o, none⟩ : Addr).add i = ⟨g, o + i, none⟩ := by unfold Addr.add; split <;> simp_all
  have hcell : w.cell? ⟨g, o + i, none⟩ = some cur[o + i] := by simp [World.cell?, hg, hi]
  have hfro : w.frozen? ⟨g, o + i, none⟩ = false := by
   rcases hf with rfl | hf
   ·simp [World.frozen?, hg]
   ·obtain ⟨lo, hi'⟩ := fz
    simp only [World.frozen?, hg]
    simp at hf ⊢
    omega
  have hst : (store ((⟨g, o, none⟩ : Addr).add i) v).run P w = .ok () (w.setRow g (cur.setIfInBounds (o + i) v)) := by
   rw [hadd, run_store P w _ v _ (h1 v (by simp)), hcell]
   simp [hfro, setCell_eq_setRow w g (o + i) cur t fz v hg]
  have ih := storeCells_run g o t fz rest (i + 1) (cur.setIfInBounds (o + i) v) (w.setRow g (cur.setIfInBounds (o + i) v)) (setRow_heap w g cur _ t _ hg) (by simpa using hf) (by simp at hl ⊢; omega) (fun x hx => h1 x (by simp [hx]))
  simp only [storeCells, Sem.run_bind, hst, Result.andThen_ok, ih, setRow_setRow]
  congr 3
  have e := list_seg_step cur.toList (o + i) v rest (by simp at hl ⊢; omega)
  simpa [Array.toList_setIfInBounds, Nat.add_assoc] using e
theorem cell?_of {w : World} {r i : Nat} {arr : Array Value} {e : TypeId} {fr : Nat × Nat} (h : w.heap[r]? = some (.cells arr e fr)) : w.cell? ⟨r, i, none⟩ = arr[i]? := by
 simp [World.cell?, h]
theorem CellsR.list {sh : Nat} {c : PT AV} {n : Nat} {arr : Array Value} (h : CellsR φ sh c n arr) : ∀ (k o : Nat) (l : List AV), o + k ≤ n → c.getAll o k = some l →
  ∃ us, VRs φ l us ∧ us.length = k ∧ ∀ (j : Nat) (v : Value), us[j]? = some v → arr[sh + o + j]? = some v := by
 intro k
 induction k with
 | zero => intro o l _ hl; simp [PT.getAll] at hl; subst hl; exact ⟨[], .nil, rfl, by simp⟩
 | succ k ih =>
  intro o l hn hl
  simp only [PT.getAll] at hl
  split at hl
  ·simp at hl
  ·rename_i x hx
   split at hl
   ·simp at hl
   ·rename_i r hr
    simp at hl
    subst hl
    obtain ⟨us, h1, h2, h3⟩ := ih (o + 1) r (by omega) hr
    obtain ⟨v, h5, h6⟩ := h.2 o x (by omega) hx
    refine ⟨v :: us, .cons h6 h1, by simp [h2], fun j u hj => ?_⟩
    cases j with
    | zero => simp at hj; subst hj; simpa using h5
    | succ j =>
     simp at hj
     have := h3 j u hj
     rw [show sh + o + (j + 1) = sh + (o + 1) + j by omega]; exact this
theorem read_cells (h : Rel φ s w) {b o k n : Nat} {c : PT AV} {tl : Option (Nat × Nat)} {l : List AV} (hb : s.h.get b = some (.cells c n tl)) (hn : o + k ≤ n) (hl : c.getAll o k = some l)
  {r sh : Nat} (hr : φ.blk b = some (r, sh)) : ∃ us, VRs φ l us ∧ us.length = k ∧ (loadCells ⟨r, sh + o, none⟩ k).run P w = .ok us.toArray w := by
 obtain ⟨r', sh', arr, e, fz, h1, h2, h3, _⟩ := h.cells hb
 rw [hr] at h1
 simp at h1
 obtain ⟨rfl, rfl⟩ := h1
 obtain ⟨us, h4, h5, h6⟩ := h3.list k o l hn hl
 refine ⟨us, h4, h5, ?_⟩
 have := run_loadCells_list (P := P) w ⟨r, sh + o, none⟩ us (fun j v hj => by
  have hadd : (⟨r, sh + o, none⟩ : Addr).add j = ⟨r, sh + o + j, none⟩ := by unfold Addr.add; split <;> simp_all
  rw [hadd, cell?_of h2]; exact h6 j v hj)
 rw [h5] at this
 exact this
theorem read_one (h : Rel φ s w) {b o n : Nat} {c : PT AV} {tl : Option (Nat × Nat)} {a : AV} (hb : s.h.get b = some (.cells c n tl)) (hn : o < n) (hl : c.get o = some a)
  {r sh : Nat} (hr : φ.blk b = some (r, sh)) : ∃ u, VR φ a u ∧ (load ⟨r, sh + o, none⟩).run P w = .ok u w := by
 obtain ⟨r', sh', arr, e, fz, h1, h2, h3, _⟩ := h.cells hb
 rw [hr] at h1
 simp at h1
 obtain ⟨rfl, rfl⟩ := h1
 obtain ⟨v, h5, h6⟩ := h3.2 o a hn hl
 exact ⟨v, h6, by simp [cell?_of h2, h5]⟩
theorem ones_ok : ∀ {l : List AV} {us : List Value}, ones l = true → VRs φ l us → ∀ u ∈ us, u.oneCell' = true := by
 intro l
 induction l with
 | nil => intro us _ h; cases h; simp
 | cons a l ih =>
  intro us h hv
  cases hv with
  | cons hv hs =>
   rename_i v us
   intro u hu
   have h2 : ones l = true ∧ v.oneCell' = true := by
    cases hv with
    | sym _ hp => simp [ones] at h; exact ⟨h, by cases v <;> first | rfl | simp [plainV] at hp⟩
    | _ => simp [ones] at h <;> exact ⟨h, rfl⟩
   rcases List.mem_cons.1 hu with rfl | hu
   ·exact h2.2
   ·exact ih h2.1 hs u hu
theorem CellsR.write {sh : Nat} {c : PT AV} {n : Nat} {arr : Array Value} (h : CellsR φ sh c n arr) {o : Nat} {vs : List AV} {us : List Value} (hv : VRs φ vs us) (hn : o + vs.length ≤ n) :
  CellsR φ sh (c.setAll o vs) n (arr.toList.take (sh + o) ++ us ++ arr.toList.drop (sh + o + us.length)).toArray ∧
   (arr.toList.take (sh + o) ++ us ++ arr.toList.drop (sh + o + us.length)).toArray.size = arr.size := by
 have hl := hv.length
 have hs := h.1
 have hsize : (arr.toList.take (sh + o) ++ us ++ arr.toList.drop (sh + o + us.length)).toArray.size = arr.size := by
  simp; omega
 refine ⟨⟨by rw [hsize]; exact hs, fun i a hi => ?_⟩, hsize⟩
 rw [PT.get_setAll]
 by_cases hin : o ≤ i ∧ i < o + vs.length
 ·rw [if_pos hin]
  intro ha
  obtain ⟨u, h1, h2⟩ := hv.get (i - o) _ ha
  refine ⟨u, ?_, h2⟩
  simp only [List.getElem?_toArray]
  rw [List.append_assoc, List.getElem?_append_right (by simp; omega), List.getElem?_append_left (by simp; omega)]
  simp only [List.length_take, Array.length_toList]
  rw [show sh + i - min (sh + o) arr.size = i - o by omega]
  exact h1
 ·rw [if_neg hin]
  intro ha
  obtain ⟨v, h2, h3⟩ := h.2 i a hi ha
  refine ⟨v, ?_, h3⟩
  simp only [List.getElem?_toArray]
  by_cases hlo : i < o
  ·rw [List.append_assoc, List.getElem?_append_left (by simp; omega), List.getElem?_take_of_lt (by omega)]
   simpa using h2
  ·rw [List.getElem?_append_right (by simp; omega)]
   simp only [List.length_append, List.length_take, Array.length_toList, List.getElem?_drop]
   rw [show sh + o + us.length + (sh + i - (min (sh + o) arr.size + us.length)) = sh + i by omega]
   simpa using h2
theorem writeAll_ok (h : Rel φ s w) {b o : Nat} {vs : List AV} {s' : St} (hw : writeAll s b o vs = some s') {us : List Value} (hv : VRs φ vs us) {r sh : Nat} (hr : φ.blk b = some (r, sh)) :
  ∃ w', (storeCells ⟨r, sh + o, none⟩ us 0).run P w = .ok () w' ∧ Stp φ s w φ s' w' ∧ Rel φ s' w' := by
 unfold writeAll at hw
 split at hw
 ·rename_i c n tl hb
  split at hw
  ·rename_i hcond
   simp at hw
   subst hw
   simp only [Bool.and_eq_true] at hcond
   have hn := ble_true hcond.1.2
   have hwr := hcond.2
   have hown : ownB s.h b = true := by
    unfold ownB
    rw [hb]
    unfold wr at hwr
    split at hwr
    ·simp at hwr
    ·rename_i hne
     split
     ·rename_i heq
      simp at heq
      exact absurd heq.2.2 (hne _)
     ·rfl
     ·rename_i heq; simp at heq
   obtain ⟨r', sh', arr, e, fz, h1, h2, h3, h4⟩ := h.cells hb
   rw [hr] at h1
   simp at h1
   obtain ⟨rfl, rfl⟩ := h1
   obtain ⟨h5, h6⟩ := h3.write hv hn
   have hl := hv.length
   have hfz : fz = (0, 0) ∨ arr.size ≤ fz.1 := by
    rcases h4 with ⟨_, h4⟩ | ⟨_, _, _, _, _, _, h4 | h4⟩ | ⟨k, rfl⟩
    ·exact .inl h4
    ·exact .inl h4
    ·exact .inr h4.2
    ·simp [wr] at hwr
   have hrun := storeCells_run (P := P) r (sh + o) e fz us 0 arr w h2 hfz (by have := h3.1; omega) (ones_ok hcond.1.1 hv)
   rw [setRow_eq h2] at hrun
   simp only [Nat.add_zero] at hrun
   have hput := h.put_old (b := b) (r := r) (sh := sh) (o := .cells (c.setAll o vs) n tl) (ro := .cells (arr.toList.take (sh + o) ++ us ++ arr.toList.drop (sh + o + us.length)).toArray e fz) hown hr (by
    rcases h4 with ⟨rfl, rfl⟩ | ⟨k, z, cp, rfl, hk, hs, hf⟩ | ⟨k, rfl⟩
    ·exact .cells h5
    ·exact .tail h5 hk (by rw [h6]; exact hs) (by rw [h6]; exact hf)
    ·simp [wr] at hwr)
    (fun arr' e' fz' hx => by rw [h2] at hx; simp at hx; obtain ⟨rfl, rfl, rfl⟩ := hx; exact ⟨_, _, rfl, h6⟩)
   exact ⟨_, hrun, hput.2, hput.1⟩
  ·simp at hw
 ·simp at hw
variable (hD : TabOk P D)
include hD
theorem loadA_ok (h : Rel φ s w) {t : TypeId} {p a : AV} {pv : Value} (hp : VR φ p pv) (hl : loadA D s t p = some a) :
  ∃ u, VR φ a u ∧ (Instr.loadAt t pv).run P w = .ok u w := by
 unfold loadA at hl
 split at hl
 ·rename_i i b o hi
  cases hp with
  | ptr hr =>
   rename_i r sh
   split at hl
   ·rename_i c n tl hb
    split at hl
    ·rename_i fs hd
     split at hl
     ·rename_i hn
      simp only [Option.map_eq_some_iff] at hl
      obtain ⟨l, hl, rfl⟩ := hl
      obtain ⟨us, h1, h2, h3⟩ := read_cells (P := P) h hb (ble_true hn) hl hr
      exact ⟨_, .agg h1, by simp [Instr.loadAt, Instr.sureAddr, loadVar, run_agg hD hi, hd, TD.isAgg, run_size hD hi, h3]⟩
     ·simp at hl
    ·rename_i k e hd
     split at hl
     ·rename_i hn
      simp only [Option.map_eq_some_iff] at hl
      obtain ⟨l, hl, rfl⟩ := hl
      obtain ⟨us, h1, h2, h3⟩ := read_cells (P := P) h hb (ble_true hn) hl hr
      exact ⟨_, .agg h1, by simp [Instr.loadAt, Instr.sureAddr, loadVar, run_agg hD hi, hd, TD.isAgg, run_size hD hi, h3]⟩
     ·simp at hl
    ·rename_i hd1 hd2
     have hagg : i.d.isAgg = false := by
      unfold TD.isAgg
      split
      ·rename_i fs hd; exact absurd hd (by simpa using hd1 fs)
      ·rename_i k e hd; exact absurd hd (by simpa using hd2 k e)
      ·rfl
     split at hl
     ·rename_i hn
      obtain ⟨u, h1, h2⟩ := read_one (P := P) h hb (blt_true hn) hl hr
      refine ⟨u, h1, ?_⟩
      simp only [Instr.loadAt, Instr.sureAddr, loadVar, Sem.run_bind, Sem.run_pure, Result.andThen_ok, run_agg hD hi, hagg]
      simpa using h2
     ·simp at hl
   ·simp at hl
 ·simp at hl
theorem storeA_ok (h : Rel φ s w) {t : TypeId} {p a : AV} {pv av : Value} {s' : St} (hp : VR φ p pv) (ha : VR φ a av) (hl : storeA D s t p a = some s') :
  ∃ w', (Instr.storeAt t pv av).run P w = .ok () w' ∧ Stp φ s w φ s' w' ∧ Rel φ s' w' := by
 unfold storeA at hl
 split at hl
 ·rename_i i b o hi
  cases hp with
  | ptr hr =>
   simp only [] at hl
   split at hl
   ·rename_i hn
    have hc := ha.cells
    obtain ⟨w', h1, h2, h3⟩ := writeAll_ok (P := P) h hl hc hr
    refine ⟨w', ?_, h2, h3⟩
    have hsz : av.cells.size = i.size := by
     have := hc.length
     have := beq_true hn
     simp at *
     omega
    simp [Instr.storeAt, Instr.sureAddr, storeVar, run_size hD hi, hsz, h1]
   ·simp at hl
 ·simp at hl
end Go.Eng

