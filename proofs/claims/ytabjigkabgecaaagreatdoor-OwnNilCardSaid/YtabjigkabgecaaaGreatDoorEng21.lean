/-
  The abstract interpreter, its soundness: what an operation does.
-/
import Derived.Test.YtabjigkabgecaaaGreatDoorEng20
namespace Go.Eng
variable {P : Program} {D : Tab} {φ : Phi} {s : St} {w : World} {T : PT AV} {ρ : Operand → Value}

/-- What an operation does, against the model. -/
def DoOk (P : Program) (φ : Phi) (s : St) (w : World) (r : Result Next) : Do → Prop
  | .val v s' => Res φ s w r v s'
  | .enter g args => ∃ vals : List Value, VRs φ args vals ∧ r = .ok (.enter g vals.toArray) w
  | .round l args => ∃ (vals : List Value) (x sh : Nat), VRs φ args vals ∧ φ.blk l = some (x, sh) ∧ r = (Instr.yield x vals.toArray).run P w
  | .next it str => ∃ (iv : Value) (ty : TypeId), VR φ it iv ∧ r = ((Instr.next iv str ty).run P w).andThen fun v w' => .ok (.value v) w'

theorem v1_ok {x : Option AV} {d : Do} (h : v1 s x = some d) : ∃ v, x = some v ∧ d = .val v s := by
  unfold v1 at h
  split at h
  · simp at h; exact ⟨_, rfl, h.symm⟩
  · simp at h
theorem v2_ok {x : Option (AV × St)} {d : Do} (h : v2 x = some d) : ∃ v s', x = some (v, s') ∧ d = .val v s' := by
  unfold v2 at h
  split at h
  · simp at h; exact ⟨_, _, rfl, h.symm⟩
  · simp at h
theorem u1_ok {x : Option St} {d : Do} (h : u1 x = some d) : ∃ s', x = some s' ∧ d = .val .undef s' := by
  unfold u1 at h
  split at h
  · simp at h; exact ⟨_, rfl, h.symm⟩
  · simp at h
theorem ev1_ok {x : Operand} {k : AV → Option Do} {d : Do} (h : ev1 T x k = some d) : ∃ a, ev T x = some a ∧ k a = some d := by
  unfold ev1 at h
  split at h
  · exact ⟨_, by assumption, h⟩
  · simp at h
theorem ev2_ok {x y : Operand} {k : AV → AV → Option Do} {d : Do} (h : ev2 T x y k = some d) : ∃ a b, ev T x = some a ∧ ev T y = some b ∧ k a b = some d := by
  unfold ev2 at h
  split at h
  · split at h
    · exact ⟨_, _, by assumption, by assumption, h⟩
    · simp at h
  · simp at h

theorem evOpt_ok (hr : Rel φ s w) (he : EvR φ T ρ) {x : Option Operand} {a : Option AV} (h : evOpt T x = some a) : OptR φ a (x.map ρ) := by
  unfold evOpt at h
  split at h
  · simp at h; subst h; trivial
  · split at h
    · rename_i q
      simp at h; subst h
      exact ev_ok hr he q
    · simp at h

/-- A value, the state as it is. -/
theorem DoOk.still (hr : Rel φ s w) {r : Result Next} {v : AV} {u : Value} (hv : VR φ v u) (h : r = .ok (.value u) w) : DoOk P φ s w r (.val v s) := Res.still hr hv h

section
variable (hD : TabOk P D)
include hD

theorem callA_ok (hr : Rel φ s w) {f : AV} {fv : Value} {args : List AV} {vals : List Value} {d : Do} (hf : VR φ f fv) (ha : VRs φ args vals) (h : callA D s f args = some d) :
    DoOk P φ s w ((do let x ← Deferred.ofValue fv vals.toArray; invoke x.target x.args : Sem Next).run P w) d := by
  unfold callA at h
  split at h
  · rename_i g first caps
    cases hf with
    | func _ hx hy =>
      rename_i us vs
      have hcat : us.toArray ++ vals.toArray ++ vs.toArray = (us ++ vals ++ vs).toArray := by simp
      split at h
      · rename_i fi hfi
        simp only [Option.some.injEq] at h; subst h
        obtain ⟨fn, c, _, _, _, _, _, hc⟩ := fnOf_call hD hfi
        refine ⟨us ++ vals ++ vs, (hx.append ha).append hy, ?_⟩
        simp only [Deferred.ofValue, Sem.run_bind, Sem.run_pure, Result.andThen_ok, invoke, hcat]
        exact hc _ _
      · split at h
        · rename_i e he
          obtain ⟨v, hv, rfl⟩ := v1_ok h
          obtain ⟨u, u1, u2⟩ := hD.ext g e he φ _ _ v ((hx.append ha).append hy) hv
          refine DoOk.still hr u1 ?_
          simp only [Deferred.ofValue, Sem.run_bind, Sem.run_pure, Result.andThen_ok, invoke, hcat]
          exact u2 w
        · split at h
          · rename_i e he
            obtain ⟨v, s', hv, rfl⟩ := v2_ok h
            obtain ⟨φ', w', u, g1, g2, g3, g4⟩ := hD.xst g e he φ s w _ _ _ _ hr ((hx.append ha).append hy) hv
            refine ⟨φ', w', u, .inl ?_, g2, g3, g4⟩
            simp only [Deferred.ofValue, Sem.run_bind, Sem.run_pure, Result.andThen_ok, invoke, hcat]
            exact g1
          · simp at h
  · rename_i l
    cases hf with
    | yld hb =>
      simp at h; subst h
      refine ⟨vals, _, _, ha, hb, ?_⟩
      simp only [Deferred.ofValue, Sem.run_bind, Sem.run_pure, Result.andThen_ok, invoke]
      simp
  · simp at h

omit hD in
theorem method_ok {t : TypeId} {name : String} {f : FuncId} (v : Value) (h : methOf P t name = some f) (w : World) : (method (P.types.size + Made.depth) t v name).run P w = .ok (f, v) w := by
  unfold methOf at h
  split at h
  · simp at h
  · rename_i i hi
    split at h
    · simp at h
    · rename_i m hm
      split at h
      · rename_i g pr hp hf
        have hinfo : P.info? t = some i := by
          unfold Tables.info?
          have : t < P.types.size := (Array.getElem?_eq_some_iff.1 hi).1
          rw [if_pos this]; exact hi
        have hty : (typeInfo t).run P w = .ok i w := by simp [typeInfo, hinfo]
        obtain ⟨k, hk⟩ : ∃ k, P.types.size + Made.depth = k + 1 := ⟨P.types.size + (Made.depth - 1), by unfold Made.depth; omega⟩
        rw [hk]
        simp only [method, Sem.run_bind, hty, Result.andThen_ok, hm, hp, follow, Sem.run_pure, hf]
        split at h
        · rename_i e hu
          simp at h; subst h
          have hun : (underlying t).run P w = .ok (.pointer e) w := by simp [underlying, hu]
          simp [receiverAt, hun, Place.get]
        · simp at h
        · rename_i d hnp hu
          simp at h; subst h
          have hun : (underlying t).run P w = .ok d w := by simp [underlying, hu]
          unfold receiverAt
          simp only [Sem.run_bind, hun, Result.andThen_ok]
          cases d <;> first | (exact absurd rfl (hnp _)) | simp [Place.get]
        · simp at h
      · simp at h

theorem invokeA_ok (hr : Rel φ s w) {r : AV} {rv : Value} {name : String} {args : List AV} {vals : List Value} {d : Do} (hf : VR φ r rv) (ha : VRs φ args vals) (h : invokeA D s r name args = some d) :
    DoOk P φ s w ((invoke (.fn (.method name) #[]) (#[rv] ++ vals.toArray)).run P w) d := by
  unfold invokeA at h
  split at h
  · rename_i t v
    split at h
    · rename_i f hm
      cases hf with
      | iface _ hv =>
        rename_i v'
        have hmeth := method_ok (P := P) v' (hD.ms t name f hm) w
        have := callA_ok hD hr (f := .func f [] []) (fv := .func (.func f) #[] #[]) (VR.func f .nil .nil) (VRs.cons hv ha) h
        have e : (invoke (.fn (.method name) #[]) (#[Value.iface t v'] ++ vals.toArray)).run P w = (do let x ← Deferred.ofValue (.func (.func f) #[] #[]) (v' :: vals).toArray; invoke x.target x.args : Sem Next).run P w := by
          have e1 : (#[Value.iface t v'] ++ vals.toArray)[0]? = some (.iface t v') := by simp
          have e2 : (#[Value.iface t v'] ++ vals.toArray).extract 1 (#[Value.iface t v'] ++ vals.toArray).size = vals.toArray := by
            apply Array.toList_inj.1; simp
          have e3 : (#[] : Array Value) ++ (v' :: vals).toArray ++ #[] = #[v'] ++ vals.toArray := by simp
          simp only [invoke, e1, e2, callMethod, Deferred.ofValue, Sem.run_bind, Sem.run_pure, Result.andThen_ok, e3]
          simp [hmeth]
        rw [e]
        exact this
    · simp at h
  · simp at h

theorem assertA_ok {x v : AV} {xv : Value} {xt t : TypeId} {ok : Bool} (hx : VR φ x xv) (h : assertA D x t ok = some v) (w : World) : ∃ u, VR φ v u ∧ (Instr.typeAssert xv xt t ok).run P w = .ok u w := by
  unfold assertA at h
  split at h
  · simp at h
  · rename_i i hi
    obtain ⟨de, _, hde, hu⟩ := run_under hD hi w
    have hni : ∀ m, de ≠ .interface m := by
      rintro m rfl
      rw [hde] at h
      simp [tdOf] at h
    split at h
    · simp at h
    · split at h
      · rename_i u y
        cases hx with
        | iface _ hy =>
          rename_i y'
          split at h
          · rename_i hb
            have := beq_true hb
            subst this
            simp at h; subst h
            refine ⟨_, .tuple (.cons hy (.cons (.bool true) .nil)), ?_⟩
            unfold Instr.typeAssert
            simp only [Sem.run_bind, hu, Result.andThen_ok]
            cases de <;> first | (exact absurd rfl (hni _)) | simp
          · rename_i hb
            have := beq_true hb
            subst this
            simp at h; subst h
            refine ⟨_, hy, ?_⟩
            unfold Instr.typeAssert
            simp only [Sem.run_bind, hu, Result.andThen_ok]
            cases de <;> first | (exact absurd rfl (hni _)) | simp
          · rename_i hb
            have hne : u ≠ t := by rintro rfl; simp at hb
            split at h
            · rename_i z hz
              simp at h; subst h
              obtain ⟨zv, z1, z2⟩ := zeroAV_ok (φ := φ) hD hz w
              refine ⟨_, .tuple (.cons z1 (.cons (.bool false) .nil)), ?_⟩
              unfold Instr.typeAssert
              simp only [Sem.run_bind, hu, Result.andThen_ok]
              cases de <;> first | (exact absurd rfl (hni _)) | simp [hne, z2]
            · simp at h
          · simp at h
      · cases hx
        split at h
        · split at h
          · rename_i z hz
            simp at h; subst h
            obtain ⟨zv, z1, z2⟩ := zeroAV_ok (φ := φ) hD hz w
            refine ⟨_, .tuple (.cons z1 (.cons (.bool false) .nil)), ?_⟩
            unfold Instr.typeAssert
            simp only [Sem.run_bind, hu, Result.andThen_ok]
            cases de <;> first | (exact absurd rfl (hni _)) | simp [z2]
          · simp at h
        · simp at h
      · simp at h

theorem opA_ok (hr : Rel φ s w) (he : EvR φ T ρ) {o : Oper} {d : Do} (h : opA D T s o.op = some d) : DoOk P φ s w ((execOp ρ o).run P w) d := by
  obtain ⟨dst, op, ty, pos, after, guard⟩ := o
  simp only at h
  cases op <;> simp only [opA] at h <;> first | (simp at h; done) | skip
  case move x =>
    obtain ⟨v, hv, rfl⟩ := v1_ok h
    exact DoOk.still hr (ev_ok hr he hv) rfl
  case assign x =>
    obtain ⟨v, hv, rfl⟩ := v1_ok h
    exact DoOk.still hr (ev_ok hr he hv) rfl
  case pick c a b =>
    obtain ⟨cv, h1, h⟩ := ev1_ok h
    obtain ⟨v, hv, rfl⟩ := v1_ok h
    obtain ⟨r, h2, h3⟩ := pickA_ok hr he (ev_ok hr he h1) hv
    exact DoOk.still hr h3 (by cases r <;> simp [execOp, h2, asBool])
  case alloc t =>
    obtain ⟨v, s', hv, rfl⟩ := v2_ok h
    obtain ⟨φ', u, w', g1, g2, g3, g4⟩ := allocA_ok hD hr hv
    exact ⟨φ', w', u, .inl (by simp [execOp, g2]), g3, g4, g1⟩
  case box t x =>
    obtain ⟨a, h1, h⟩ := ev1_ok h
    obtain ⟨v, s', hv, rfl⟩ := v2_ok h
    obtain ⟨φ', u, w', g1, g2, g3, g4⟩ := boxA_ok (P := P) hr (ev_ok hr he h1) t
    simp at hv
    rw [hv] at g1 g3 g4
    exact ⟨φ', w', u, .inl (by simp [execOp, g2]), g3, g4, g1⟩
  case build t ps =>
    split at h
    · rename_i vs hvs
      obtain ⟨v, hv, rfl⟩ := v1_ok h
      have hr' := evAll_ok hr he hvs
      obtain ⟨u, u1, u2⟩ := buildA_ok (ρ := ρ) (ps := ps) hD hr' (by simp) hv w
      exact DoOk.still hr u1 (by simp [execOp]; simp at u2; rw [u2]; rfl)
    · simp at h
  case buildSlice t n ps =>
    split at h
    · rename_i vs hvs
      obtain ⟨v, s', hv, rfl⟩ := v2_ok h
      have hr' := evAll_ok hr he hvs
      obtain ⟨φ', u, w', g1, g2, g3, g4⟩ := buildSliceA_ok (ρ := ρ) (ps := ps) hD hr hr' (by simp) hv
      exact ⟨φ', w', u, .inl (by simp [execOp]; simp at g2; rw [g2]; rfl), g3, g4, g1⟩
    · simp at h
  case load t a =>
    obtain ⟨p, h1, h⟩ := ev1_ok h
    obtain ⟨v, hv, rfl⟩ := v1_ok h
    obtain ⟨u, u1, u2⟩ := loadA_ok hD hr (ev_ok hr he h1) hv
    exact DoOk.still hr u1 (by simp [execOp, u2])
  case store t a x =>
    obtain ⟨p, b, h1, h2, h⟩ := ev2_ok h
    obtain ⟨s', hs, rfl⟩ := u1_ok h
    obtain ⟨w', g1, g2, g3⟩ := storeA_ok hD hr (ev_ok hr he h1) (ev_ok hr he h2) hs
    exact ⟨φ, w', undef, .inr ⟨by simp [execOp, g1], rfl⟩, g2, g3, VR.undef⟩
  case nilCheck x =>
    obtain ⟨a, h1, h⟩ := ev1_ok h
    obtain ⟨v, hv, rfl⟩ := v1_ok h
    obtain ⟨g1, g2⟩ := nilCheckA_ok (ev_ok hr he h1) hv
    refine DoOk.still hr g1 ?_
    rcases g2 with ⟨p, hp⟩ | ⟨f, a, c, hp⟩
    · simp [execOp, hp]
    · simp [execOp, hp]
  case binOp op t x y yt =>
    obtain ⟨a, b, h1, h2, h⟩ := ev2_ok h
    obtain ⟨v, hv, rfl⟩ := v1_ok h
    obtain ⟨u, u1, u2⟩ := binA_ok (P := P) hD hr (ev_ok hr he h1) (ev_ok hr he h2) hv
    refine DoOk.still hr u1 ?_
    simp only [execOp, Sem.run_bind] at u2 ⊢
    simp only [u2, Result.andThen_ok, Sem.run_pure]
  case unOp op t x =>
    obtain ⟨a, h1, h⟩ := ev1_ok h
    obtain ⟨v, hv, rfl⟩ := v1_ok h
    obtain ⟨u, u1, u2⟩ := unA_ok (P := P) (w := w) (ev_ok hr he h1) hv
    exact DoOk.still hr u1 (by simp [execOp, u2])
  case convert a b x =>
    obtain ⟨q, h1, h⟩ := ev1_ok h
    obtain ⟨v, s', hv, rfl⟩ := v2_ok h
    obtain ⟨φ', u, w', g1, g2, g3, g4⟩ := convS_ok hD hr (ev_ok hr he h1) hv
    exact ⟨φ', w', u, .inl (by simp [execOp, g2]), g3, g4, g1⟩
  case makeInterface t x =>
    obtain ⟨a, h1, h⟩ := ev1_ok h
    obtain ⟨v, hv, rfl⟩ := v1_ok h
    obtain ⟨u, u1, u2⟩ := ifaceA_ok hD (ev_ok hr he h1) hv w
    exact DoOk.still hr u1 (by simp [execOp, u2])
  case makeFunc fn first caps =>
    unfold fnOp at h
    split at h
    · split at h
      · rename_i a b h1 h2
        simp at h; subst h
        have g1 := evAll_ok hr he h1
        have g2 := evAll_ok hr he h2
        refine DoOk.still hr (.func _ g1 g2) ?_
        have e1 : first.map ρ = (first.toList.map ρ).toArray := by apply Array.toList_inj.1; simp
        have e2 : caps.map ρ = (caps.toList.map ρ).toArray := by apply Array.toList_inj.1; simp
        simp only [execOp, Instr.makeFunc, Sem.run_bind, Sem.run_pure, Result.andThen_ok, e1, e2]
      · simp at h
    · simp at h
  case makeMap t r =>
    cases r with
    | some r => simp at h
    | none =>
      simp only at h
      obtain ⟨v, s', hv, rfl⟩ := v2_ok h
      simp at hv
      obtain ⟨rfl, rfl⟩ := hv
      obtain ⟨φ', w', g1, g2, g3, g4⟩ := new_other (P := P) hr (o := .map [] 0) (ro := .map #[] 0) (.map trivial)
      exact ⟨φ', w', _, .inl (by simp only [execOp, Instr.makeMap, Option.map_none, Sem.run_bind, Sem.run_pure, Result.andThen_ok, g1]), g2, g3, .map g4⟩
  case makeSlice t l c =>
    obtain ⟨a, b, h1, h2, h⟩ := ev2_ok h
    obtain ⟨v, s', hv, rfl⟩ := v2_ok h
    obtain ⟨φ', u, w', g1, g2, g3, g4⟩ := makeSliceA_ok hD hr (ev_ok hr he h1) (ev_ok hr he h2) hv
    exact ⟨φ', w', u, .inl (by simp [execOp, g2]), g3, g4, g1⟩
  case slice t x lo hi mx =>
    obtain ⟨a, h1, h⟩ := ev1_ok h
    unfold sliceOp at h
    split at h
    · rename_i l hh m q1 q2 q3
      obtain ⟨v, hv, rfl⟩ := v1_ok h
      obtain ⟨u, u1, u2⟩ := sliceA_ok hD (ev_ok hr he h1) (evOpt_ok hr he q1) (evOpt_ok hr he q2) (evOpt_ok hr he q3) hv w
      exact DoOk.still hr u1 (by simp [execOp, u2])
    · simp at h
  case fieldAddr t x f =>
    obtain ⟨a, h1, h⟩ := ev1_ok h
    obtain ⟨v, hv, rfl⟩ := v1_ok h
    obtain ⟨u, u1, u2⟩ := fieldAddrA_ok hD (ev_ok hr he h1) hv w
    exact DoOk.still hr u1 (by simp [execOp, u2])
  case field t x f =>
    obtain ⟨a, h1, h⟩ := ev1_ok h
    obtain ⟨v, hv, rfl⟩ := v1_ok h
    obtain ⟨u, u1, u2⟩ := fieldA_ok hD (ev_ok hr he h1) hv w
    exact DoOk.still hr u1 (by simp [execOp, u2])
  case indexAddr t x i =>
    obtain ⟨a, b, h1, h2, h⟩ := ev2_ok h
    obtain ⟨v, hv, rfl⟩ := v1_ok h
    obtain ⟨u, u1, u2⟩ := indexAddrA_ok hD (ev_ok hr he h1) (ev_ok hr he h2) hv w
    exact DoOk.still hr u1 (by simp [execOp, u2])
  case index t x i =>
    obtain ⟨a, b, h1, h2, h⟩ := ev2_ok h
    obtain ⟨v, hv, rfl⟩ := v1_ok h
    obtain ⟨u, u1, u2⟩ := indexA_ok hD (ev_ok hr he h1) (ev_ok hr he h2) hv w
    exact DoOk.still hr u1 (by simp [execOp, u2])
  case lookup t m k ok =>
    obtain ⟨a, b, h1, h2, h⟩ := ev2_ok h
    obtain ⟨v, hv, rfl⟩ := v1_ok h
    obtain ⟨u, u1, u2⟩ := lookupA_ok hD hr (ev_ok hr he h1) (ev_ok hr he h2) hv
    exact DoOk.still hr u1 (by simp [execOp, u2])
  case mapUpdate t m k x =>
    obtain ⟨a, b, h1, h2, h⟩ := ev2_ok h
    obtain ⟨c, h3, h⟩ := ev1_ok h
    obtain ⟨s', hs, rfl⟩ := u1_ok h
    obtain ⟨w', g1, g2, g3⟩ := mapUpdA_ok hD hr (ev_ok hr he h1) (ev_ok hr he h2) (ev_ok hr he h3) hs
    exact ⟨φ, w', undef, .inr ⟨by simp [execOp, g1], rfl⟩, g2, g3, VR.undef⟩
  case insert t m k x =>
    obtain ⟨a, b, h1, h2, h⟩ := ev2_ok h
    obtain ⟨c, h3, h⟩ := ev1_ok h
    obtain ⟨s', hs, rfl⟩ := u1_ok h
    obtain ⟨w', g1, g2, g3⟩ := mapUpdA_ok hD hr (ev_ok hr he h1) (ev_ok hr he h2) (ev_ok hr he h3) hs
    exact ⟨φ, w', undef, .inr ⟨by simp [execOp, g1], rfl⟩, g2, g3, VR.undef⟩
  case mapEntry t m k =>
    obtain ⟨a, b, h1, h2, h⟩ := ev2_ok h
    obtain ⟨v, s', hv, rfl⟩ := v2_ok h
    obtain ⟨u, w', g1, g2, g3, g4⟩ := mapEntryA_ok hD hr (ev_ok hr he h1) (ev_ok hr he h2) hv
    exact ⟨φ, w', u, .inl (by simp [execOp, g2]), g3, g4, g1⟩
  case entryStore t m st x =>
    obtain ⟨a, b, h1, h2, h⟩ := ev2_ok h
    obtain ⟨c, h3, h⟩ := ev1_ok h
    obtain ⟨s', hs, rfl⟩ := u1_ok h
    obtain ⟨w', g1, g2, g3⟩ := entryStoreA_ok (P := P) (t := t) hr (ev_ok hr he h1) (ev_ok hr he h2) (ev_ok hr he h3) hs
    exact ⟨φ, w', undef, .inr ⟨by simp [execOp, g1], rfl⟩, g2, g3, VR.undef⟩
  case range t x =>
    obtain ⟨a, h1, h⟩ := ev1_ok h
    obtain ⟨v, s', hv, rfl⟩ := v2_ok h
    obtain ⟨φ', u, w', g1, g2, g3, g4⟩ := rangeA_ok hD hr (ev_ok hr he h1) hv
    exact ⟨φ', w', u, .inl (by simp [execOp, g2]), g3, g4, g1⟩
  case next it str =>
    obtain ⟨a, h1, h⟩ := ev1_ok h
    simp at h; subst h
    exact ⟨_, ty, ev_ok hr he h1, by simp only [execOp, Sem.run_bind]; rfl⟩
  case entry it =>
    obtain ⟨a, h1, h⟩ := ev1_ok h
    obtain ⟨v, hv, rfl⟩ := v1_ok h
    obtain ⟨u, u1, u2⟩ := entryA_ok (P := P) hr (ev_ok hr he h1) hv
    exact DoOk.still hr u1 (by simp [execOp, u2])
  case extract x i =>
    obtain ⟨a, h1, h⟩ := ev1_ok h
    obtain ⟨v, hv, rfl⟩ := v1_ok h
    obtain ⟨u, u1, u2⟩ := extractA_ok (P := P) (w := w) (ev_ok hr he h1) hv
    exact DoOk.still hr u1 (by simp [execOp, u2])
  case call c =>
    unfold callOp at h
    split at h
    · simp at h
    · rename_i args ha
      have hargs := evAll_ok hr he ha
      have hmap : c.args.map ρ = (c.args.toList.map ρ).toArray := by
        apply Array.toList_inj.1; simp
      split at h
      · rename_i b hb
        obtain ⟨v, s', hv, rfl⟩ := v2_ok h
        obtain ⟨φ', u, w', g1, g2, g3, g4⟩ := builtinA_ok (ty := ty) (cs := c.args.map fun | .const _ => true | _ => false) hD hr hargs hv
        refine ⟨φ', w', u, .inl ?_, g3, g4, g1⟩
        simp only [execOp, resolve, hb, hmap, Sem.run_bind, Sem.run_pure, Result.andThen_ok, invoke]
        exact g2
      · rename_i f hf
        obtain ⟨g, h1, h⟩ := ev1_ok h
        have := callA_ok hD hr (ev_ok hr he h1) hargs h
        simp only [execOp, resolve, hf, hmap]
        exact this
      · rename_i r name hf
        obtain ⟨g, h1, h⟩ := ev1_ok h
        have := invokeA_ok hD hr (ev_ok hr he h1) hargs h
        simp only [execOp, resolve, hf, hmap, Sem.run_bind, Sem.run_pure, Result.andThen_ok]
        exact this
  case typeAssert x xt t ok =>
    obtain ⟨a, h1, h⟩ := ev1_ok h
    obtain ⟨v, hv, rfl⟩ := v1_ok h
    obtain ⟨u, u1, u2⟩ := assertA_ok (P := P) (xt := xt) hD (ev_ok hr he h1) hv w
    exact DoOk.still hr u1 (by simp [execOp, u2])

end
end Go.Eng
