/-
  The abstract interpreter, its soundness: an operation, whole.
-/
import Derived.Test.YtabjigkabgecaaaGreatDoorEng19
namespace Go.Eng
variable {P : Program} {D : Tab} {φ : Phi} {s : St} {w : World} {T : PT AV} {ρ : Operand → Value}

/-! Whatever stands there is held against nothing. -/
theorem aeqs_sym {h : PT AObj} {i : Nat} {b : AV} : ∀ (d : Nat) (fs : List (TypeId × Nat × Bool)), aeqs D h d fs (.sym i) b = none ∧ aeqs D h d fs b (.sym i) = none
  | 0, _ => by simp [aeqs]
  | d + 1, [] => by cases b <;> simp [aeqs]
  | d + 1, (t, off, named) :: r => by
    have ih := aeqs_sym (h := h) (i := i) (b := b) d r
    cases named with
    | false => simpa [aeqs] using ih
    | true =>
      simp only [aeqs]
      constructor
      · split
        · rfl
        · simp [fieldOf]
      · split
        · rfl
        · rename_i ti _
          cases fieldOf ti b off <;> simp [fieldOf]

theorem aeq_nosym {h : PT AObj} {t : TypeId} {a b : AV} {r : Bool} (hq : aeq D h depth t a b = some r) : (∀ i, a ≠ .sym i) ∧ (∀ i, b ≠ .sym i) := by
  have hd : depth = 199 + 1 := rfl
  rw [hd] at hq
  simp only [aeq] at hq
  split at hq
  · simp at hq
  · rename_i ti hti
    constructor
    · rintro i rfl
      split at hq
      all_goals first | (simp [eqBool, eqInt, eqStr, eqPtr, eqIface, eqSlice, eqMap, eqFunc] at hq; done) | skip
      split at hq
      · simp at hq
      · rw [(aeqs_sym _ _).1] at hq; simp at hq
    · rintro i rfl
      split at hq
      all_goals first | (simp [eqBool, eqInt, eqStr, eqPtr, eqIface, eqSlice, eqMap, eqFunc] at hq; done) | skip
      split at hq
      · simp at hq
      · rw [(aeqs_sym _ _).2] at hq; simp at hq

section
variable (hD : TabOk P D)
include hD

theorem aeq_equal (hr : Rel φ s w) {t : TypeId} {a b : AV} {r : Bool} {x y : Value} (h : aeq D s.h depth t a b = some r) (hx : VR φ a x) (hy : VR φ b y) : (Op.equal t x y).run P w = .ok r w := by
  have := (aeq_ok hD hr depth).1 t a b r x y 10000 h hx hy (by unfold depth; omega)
  exact this

theorem eqGuard_ok {op : BinOp} {t : TypeId} {x y : Operand} {a b : AV} {r : Bool} {u v : Value} (hn : nilIfs x y a b = false) (h : aeq D s.h depth t a b = some r) (hu : VR φ a u) (hv : VR φ b v) : (eqGuard op t x y u v).run P w = .ok () w := by
  obtain ⟨hsa, hsb⟩ := aeq_nosym h
  by_cases hag : ∃ xs ys, u = .agg xs ∧ v = .agg ys
  · obtain ⟨xs, ys, rfl, rfl⟩ := hag
    have hm : P.eqGuardType P.depth t = false := by
      have hd : depth = 199 + 1 := rfl
      rw [hd] at h
      simp only [aeq] at h
      split at h
      · simp at h
      · rename_i i hi
        obtain ⟨ti, dd, g1, g2, g3, _, _, _, g4⟩ := tyOf_spec (hD.ty t i hi)
        rw [g3] at h
        cases hu with
        | sym => exact absurd rfl (hsa _)
        | agg =>
        cases hv with
        | sym => exact absurd rfl (hsb _)
        | agg =>
        cases dd <;> simp only [tdOf] at h <;> first | (simp [eqBool, eqInt, eqStr, eqPtr, eqIface, eqSlice, eqMap, eqFunc] at h; done) | skip
        rename_i fs
        split at h
        · simp at h
        · rename_i hh
          exact (g4 (by simpa using hh) fs rfl).2
    exact run_eqGuard_agg w op t x y xs ys hm
  · by_cases hni : u = .nilIface ∧ v = .nilIface
    · obtain ⟨rfl, rfl⟩ := hni
      cases hu with
      | sym => exact absurd rfl (hsa _)
      | nilIface =>
      cases hv with
      | sym => exact absurd rfl (hsb _)
      | nilIface =>
      simp only [nilIfs, Bool.not_eq_false', Bool.or_eq_true] at hn
      unfold eqGuard
      cases x <;> cases y <;> simp [isC] at hn <;> cases op <;> simp
    · unfold eqGuard
      cases hu <;> first | (exact absurd rfl (hsa _)) | skip
      all_goals cases hv <;> first | (exact absurd rfl (hsb _)) | (exact absurd ⟨rfl, rfl⟩ hni) | (exact absurd ⟨_, _, rfl, rfl⟩ hag) | (cases op <;> simp)

theorem eqA_ok (hr : Rel φ s w) {op : BinOp} {t : TypeId} {x y : Operand} {a b v : AV} {u z : Value} (hu : VR φ a u) (hv : VR φ b z) (hna : ∀ k n, a ≠ .int k n) (hns : ∀ q, a ≠ .str q) (hnt : ∀ k t, a ≠ .tm k t) (h : eqA D s op t x y a b = some v) :
    ∃ r, VR φ v r ∧ (do eqGuard op t x y u z; binOp op t u z : Sem Value).run P w = .ok r w := by
  unfold eqA at h
  split at h
  · rename_i yes hop
    split at h
    · simp at h
    · rename_i hn
      split at h
      · rename_i r hq
        simp at h; subst h
        obtain ⟨hsa, hsb⟩ := aeq_nosym hq
        have hg := eqGuard_ok (P := P) (op := op) (w := w) hD hn hq hu hv
        have he := aeq_equal (P := P) hD hr hq hu hv
        unfold isEq at hop
        split at hop <;> simp at hop <;> subst hop
        · refine ⟨.bool r, .bool _, ?_⟩
          simp only [Sem.run_bind, hg, Result.andThen_ok]
          cases hu <;> first | (exact absurd rfl (hsa _)) | skip
          all_goals cases hv <;> first | (exact absurd rfl (hsb _)) | (exact absurd rfl (hna _ _)) | (exact absurd rfl (hnt _ _)) | (exact absurd rfl (hns _)) | (simp only [binOp, Sem.run_bind, he, Result.andThen_ok, Sem.run_pure]; done)
        · refine ⟨.bool !r, .bool _, ?_⟩
          simp only [Sem.run_bind, hg, Result.andThen_ok]
          cases hu <;> first | (exact absurd rfl (hsa _)) | skip
          all_goals cases hv <;> first | (exact absurd rfl (hsb _)) | (exact absurd rfl (hna _ _)) | (exact absurd rfl (hnt _ _)) | (exact absurd rfl (hns _)) | (simp only [binOp, Sem.run_bind, he, Result.andThen_ok, Sem.run_pure]; done)
      · simp at h
  · simp at h

omit hD in
theorem eqGuard_plain {op : BinOp} {t : TypeId} {x y : Operand} {u v : Value} (h1 : u ≠ .nilIface) (h2 : ∀ xs, u ≠ .agg xs) : (eqGuard op t x y u v).run P w = .ok () w := by
  unfold eqGuard
  cases u <;> first | (exact absurd rfl h1) | (exact absurd rfl (h2 _)) | (cases op <;> simp)

omit hD in
theorem tmOf_ok {a : AV} {u : Value} {k : IntKind} {t : Tm} (hu : VR φ a u) (h : tmOf a = some (k, t)) : u = .int k (t.ev φ.env) := by
  unfold tmOf at h
  split at h
  · simp at h; obtain ⟨rfl, rfl⟩ := h; cases hu; rfl
  · simp at h; obtain ⟨rfl, rfl⟩ := h
    cases hu with
    | tm _ _ ht => rw [ht]
  · simp at h

omit hD in
theorem symA_ok (hr : Rel φ s w) {op : BinOp} {t : TypeId} {x y : Operand} {a b v : AV} {u z : Value} (hu : VR φ a u) (hv : VR φ b z) (h : symA s op a b = some v) :
    ∃ r, VR φ v r ∧ (do eqGuard op t x y u z; binOp op t u z : Sem Value).run P w = .ok r w := by
  unfold symA at h
  split at h
  · rename_i k p k' q hp hq
    have e1 := tmOf_ok hu hp
    have e2 := tmOf_ok hv hq
    subst e1; subst e2
    split at h
    · rename_i hk
      subst hk
      have hg := eqGuard_plain (P := P) (w := w) (op := op) (t := t) (x := x) (y := y) (u := .int k (p.ev φ.env)) (v := .int k (q.ev φ.env)) (by simp) (by simp)
      have hns : ∀ v', bin op k (p.ev φ.env) (q.ev φ.env) = some v' → ∃ r, VR φ v' r ∧ (do eqGuard op t x y (.int k (p.ev φ.env)) (.int k (q.ev φ.env)); binOp op t (.int k (p.ev φ.env)) (.int k (q.ev φ.env)) : Sem Value).run P w = .ok r w := by
        intro v' hb
        obtain ⟨r, h1, h2⟩ := bin_ok (P := P) (φ := φ) (w := w) t hb (fun q' => by
          by_cases hq : op = q'
          · subst hq
            right
            constructor <;> (rintro rfl; simp [bin] at hb)
          · exact .inl hq)
        exact ⟨r, h1, by simp only [Sem.run_bind, hg, Result.andThen_ok]; exact h2⟩
      split at h
      · split at h
        · rename_i r hc
          simp at h; subst h
          exact hns _ (cmpT_ok hr.facts hc)
        · simp at h
      · split at h
        · rename_i ha
          simp at h; subst h
          obtain ⟨r, h1, h2⟩ := hns _ (arith_ok ha k _ _)
          cases h1
          exact ⟨_, .tm k _ (by simp only [Tm.ev]), h2⟩
        · simp at h
    · simp at h
  · simp at h

theorem binB_ok (hr : Rel φ s w) {op : BinOp} {t : TypeId} {x y : Operand} {a b v : AV} {u z : Value} (hnt : ∀ k t, a ≠ .tm k t) (hu : VR φ a u) (hv : VR φ b z) (h : binB D s op t x y a b = some v) :
    ∃ r, VR φ v r ∧ (do eqGuard op t x y u z; binOp op t u z : Sem Value).run P w = .ok r w := by
  unfold binB at h
  split at h
  · rename_i k n
    split at h
    · rename_i k' m
      cases hu; cases hv
      have hg := eqGuard_plain (P := P) (w := w) (op := op) (t := t) (x := x) (y := y) (u := .int k n) (v := .int k' m) (by simp) (by simp)
      split at h
      · obtain ⟨r, h1, h2⟩ := shf_ok (P := P) (φ := φ) (w := w) t h
        exact ⟨r, h1, by simp only [Sem.run_bind, hg, Result.andThen_ok]; exact h2⟩
      · rename_i hsh
        split at h
        · rename_i hk
          subst hk
          obtain ⟨r, h1, h2⟩ := bin_ok (P := P) (φ := φ) (w := w) t h (fun q => by
            by_cases hq : op = q
            · subst hq
              right
              constructor <;> (rintro rfl; simp [isSh] at hsh)
            · exact .inl hq)
          exact ⟨r, h1, by simp only [Sem.run_bind, hg, Result.andThen_ok]; exact h2⟩
        · simp at h
    · simp at h
  · rename_i p
    split at h
    · rename_i q
      cases hu; cases hv
      have hg := eqGuard_plain (P := P) (w := w) (op := op) (t := t) (x := x) (y := y) (u := .string p) (v := .string q) (by simp) (by simp)
      obtain ⟨r, h1, h2⟩ := sbin_ok (P := P) (φ := φ) (w := w) t h
      exact ⟨r, h1, by simp only [Sem.run_bind, hg, Result.andThen_ok]; exact h2⟩
    · simp at h
  · rename_i h1 h2
    exact eqA_ok hD hr hu hv (fun k n e => h1 k n e) (fun q e => h2 q e) hnt h

theorem binA_ok (hr : Rel φ s w) {op : BinOp} {t : TypeId} {x y : Operand} {a b v : AV} {u z : Value} (hu : VR φ a u) (hv : VR φ b z) (h : binA D s op t x y a b = some v) :
    ∃ r, VR φ v r ∧ (do eqGuard op t x y u z; binOp op t u z : Sem Value).run P w = .ok r w := by
  unfold binA at h
  split at h
  · exact symA_ok hr hu hv h
  · rename_i hn
    refine binB_ok hD hr (fun k t e => ?_) hu hv h
    subst e
    simp [isTm] at hn

theorem fnOf_call {f : FuncId} {fi : FnI} (h : D.fn.get f = some fi) : ∃ fn c, P.funcs[f]? = some fn ∧ fn.body = some c ∧ fi.nt = fn.ntmps ∧ fi.body = c ∧ fi.results = fn.results.toList ∧ ∀ args w, (callFunc f args).run P w = .ok (.enter f args) w := by
  have := hD.fn f fi h
  unfold fnOf at this
  split at this
  · rename_i fn hfn
    split at this
    · rename_i c hname hb
      simp at this
      subst this
      refine ⟨fn, c, hfn, hb, rfl, rfl, rfl, fun args w => ?_⟩
      simp only [callFunc, Sem.run_bind, run_program, Result.andThen_ok, hfn, hname, hb, Bool.false_eq_true, if_false]
      rfl
    · simp at this
  · simp at this

theorem builtinA_ok (hr : Rel φ s w) {b : Builtin} {ats : Array TypeId} {ty : TypeId} {cs : Array Bool} {args : List AV} {vals : List Value} {v : AV} {s' : St} (ha : VRs φ args vals) (h : builtinA D s b ats.toList args = some (v, s')) :
    ∃ φ' u w', VR φ' v u ∧ (builtin b ats ty cs vals.toArray).run P w = .ok (.value u) w' ∧ Stp φ s w φ' s' w' ∧ Rel φ' s' w' := by
  obtain ⟨at_⟩ := ats
  simp only at h
  have still : ∀ {x : AV} {r : Option AV}, st1 s r = some (v, s') → r = some v ∧ s' = s := fun hst => by
    unfold st1 at hst
    split at hst
    · simp at hst; obtain ⟨rfl, rfl⟩ := hst; exact ⟨rfl, rfl⟩
    · simp at hst
  cases b <;> simp only [builtinA] at h <;> first | (simp at h; done) | skip
  case append =>
    split at h
    · rename_i t u x y
      cases ha with
      | cons hx ha => cases ha with
        | cons hy ha =>
          cases ha
          obtain ⟨φ', u', w', g1, g2, g3, g4⟩ := appendA_ok hD hr (ty := ty) hx hy h
          exact ⟨φ', u', w', g1, by simp [builtin, g2], g3, g4⟩
    · simp at h
  case cap =>
    split at h
    · rename_i t x
      obtain ⟨h1, rfl⟩ := still (x := x) h
      cases ha with
      | cons hx ha =>
        cases ha
        obtain ⟨u', g1, g2⟩ := capA_ok hD hx h1 ty w
        exact ⟨φ, u', w, g1, by simp [builtin, g2], Stp.refl _ _ _, hr⟩
    · simp at h
  case clear =>
    split at h
    · rename_i t x
      cases ha with
      | cons hx ha =>
        cases ha
        obtain ⟨u', w', g1, g2, g3, g4⟩ := clearA_ok hD hr hx h ty
        exact ⟨φ, u', w', g1, by simp [builtin, g2], g3, g4⟩
    · simp at h
  case copy =>
    split at h
    · rename_i t u x y
      cases ha with
      | cons hx ha => cases ha with
        | cons hy ha =>
          cases ha
          obtain ⟨u', w', g1, g2, g3, g4⟩ := copyA_ok hD hr (t2 := u) hx hy h ty
          exact ⟨φ, u', w', g1, by simp [builtin, g2], g3, g4⟩
    · simp at h
  case delete =>
    split at h
    · rename_i t u x y
      cases ha with
      | cons hx ha => cases ha with
        | cons hy ha =>
          cases ha
          obtain ⟨u', w', g1, g2, g3, g4⟩ := deleteA_all hD hr (t2 := u) hx hy h ty
          exact ⟨φ, u', w', g1, by simp [builtin, g2], g3, g4⟩
    · simp at h
  case len =>
    split at h
    · rename_i t x
      obtain ⟨h1, rfl⟩ := still (x := x) h
      cases ha with
      | cons hx ha =>
        cases ha
        obtain ⟨u', g1, g2⟩ := lenA_ok hD hr hx h1 ty
        exact ⟨φ, u', w, g1, by simp [builtin, g2], Stp.refl _ _ _, hr⟩
    · simp at h
  case max =>
    split at h
    · rename_i x r
      obtain ⟨h1, rfl⟩ := still (x := x) h
      cases ha with
      | cons hx ha =>
        obtain ⟨u', g1, g2⟩ := maxA_ok (P := P) r x v true _ _ hx ha h1
        exact ⟨φ, u', w, g1, by have g := g2 w; simp only [if_true] at g; simp [builtin, Builtin.max_, g], Stp.refl _ _ _, hr⟩
    · simp at h
  case min =>
    split at h
    · rename_i x r
      obtain ⟨h1, rfl⟩ := still (x := x) h
      cases ha with
      | cons hx ha =>
        obtain ⟨u', g1, g2⟩ := maxA_ok (P := P) r x v false _ _ hx ha h1
        exact ⟨φ, u', w, g1, by have g := g2 w; simp only [Bool.false_eq_true, if_false] at g; simp [builtin, Builtin.min_, g], Stp.refl _ _ _, hr⟩
    · simp at h

end
end Go.Eng
