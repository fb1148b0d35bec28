/-
  The abstract interpreter, its soundness: operations on maps.
-/
import Derived.Test.YtabjigkabgecaaaGreatDoorEng9
namespace Go.Eng
variable {P : Program} {D : Tab} {φ : Phi} {s : St} {w : World} {T : PT AV} {ρ : Operand → Value}

theorem Rel.map (h : Rel φ s w) {b : Nat} {es : List (AV × AV × Nat)} {clock : Nat} (hb : s.h.get b = some (.map es clock)) {r sh : Nat} (hr : φ.blk b = some (r, sh)) :
    ∃ fs : Array MapEntry, w.heap[r]? = some (.map fs clock) ∧ ER φ es fs.toList := by
  obtain ⟨r', sh', ro, h1, h2, h3⟩ := h.obj b _ hb
  rw [hr] at h1
  simp at h1
  obtain ⟨rfl, rfl⟩ := h1
  cases h3 with
  | map he => exact ⟨_, h2, he⟩

theorem ER.length : ∀ {es : List (AV × AV × Nat)} {fs : List MapEntry}, ER φ es fs → es.length = fs.length
  | [], [], _ => rfl
  | _ :: _, _ :: _, ⟨_, _, _, h⟩ => by simp [ER.length h]

theorem ER.get : ∀ {es : List (AV × AV × Nat)} {fs : List MapEntry}, ER φ es fs → ∀ (i : Nat) (k v : AV) (b : Nat), es[i]? = some (k, v, b) → ∃ e, fs[i]? = some e ∧ VR φ k e.key ∧ VR φ v e.val ∧ e.born = b
  | [], [], _, i, k, v, b, h => by simp at h
  | _ :: es, e :: fs, ⟨h1, h2, h3, h4⟩, i, k, v, b, h => by
    cases i with
    | zero => simp at h; subst h; exact ⟨e, rfl, h1, h2, h3⟩
    | succ i => simp at h; simpa using ER.get h4 i k v b h

theorem ER.snoc : ∀ {es : List (AV × AV × Nat)} {fs : List MapEntry}, ER φ es fs → ∀ {k v : AV} {b : Nat} {e : MapEntry}, VR φ k e.key → VR φ v e.val → e.born = b → ER φ (es ++ [(k, v, b)]) (fs ++ [e])
  | [], [], _, _, _, _, _, h1, h2, h3 => ⟨h1, h2, h3, trivial⟩
  | _ :: _, _ :: _, ⟨g1, g2, g3, g4⟩, _, _, _, _, h1, h2, h3 => ⟨g1, g2, g3, ER.snoc g4 h1 h2 h3⟩

/-- A store into the entry at a place, whose key is again the one that it was. -/
theorem ER.store {v : AV} {key : Value} {val : Value} : ∀ {es : List (AV × AV × Nat)} {fs : List MapEntry} (i : Nat), ER φ es fs → VR φ v val → (∀ e, fs[i]? = some e → e.key = key) →
    ER φ (setVal es i v) (fs.modify i fun e => { e with key, val })
  | [], [], _, _, _, _ => by simp [setVal, ER]
  | (k, u, b) :: es, e :: fs, 0, ⟨h1, h2, h3, h4⟩, hv, hk => by
    have := hk e rfl
    subst this
    exact ⟨h1, hv, h3, h4⟩
  | (k, u, b) :: es, e :: fs, i + 1, ⟨h1, h2, h3, h4⟩, hv, hk => by
    simp only [setVal, List.modify_succ_cons]
    exact ⟨h1, h2, h3, ER.store i h4 hv (fun e' he => hk e' (by simpa using he))⟩

theorem ER.touch {key : Value} : ∀ {es : List (AV × AV × Nat)} {fs : List MapEntry} (i : Nat), ER φ es fs → (∀ e, fs[i]? = some e → e.key = key) → ER φ es (fs.modify i fun e => { e with key })
  | [], [], _, _, _ => by simp [ER]
  | (k, u, b) :: es, e :: fs, 0, ⟨h1, h2, h3, h4⟩, hk => by
    have := hk e rfl
    subst this
    exact ⟨h1, h2, h3, h4⟩
  | (k, u, b) :: es, e :: fs, i + 1, ⟨h1, h2, h3, h4⟩, hk => by
    simp only [List.modify_succ_cons]
    exact ⟨h1, h2, h3, ER.touch i h4 (fun e' he => hk e' (by simpa using he))⟩

theorem ER.erase : ∀ {es : List (AV × AV × Nat)} {fs : List MapEntry} (i : Nat), ER φ es fs → ER φ (eraseAt es i) (fs.eraseIdx i)
  | [], [], _, _ => by simp [eraseAt, ER]
  | _ :: _, _ :: _, 0, ⟨_, _, _, h4⟩ => by simpa [eraseAt] using h4
  | (_, _, _) :: es, e :: fs, i + 1, ⟨h1, h2, h3, h4⟩ => by
    simp only [eraseAt, List.eraseIdx_cons_succ]
    exact ⟨h1, h2, h3, ER.erase i h4⟩

theorem Rel.put_map (h : Rel φ s w) {b : Nat} {es : List (AV × AV × Nat)} {clock : Nat} (hb : s.h.get b = some (.map es clock)) {r sh : Nat} (hr : φ.blk b = some (r, sh)) {es' : List (AV × AV × Nat)} {clock' : Nat} {fs' : Array MapEntry} (he : ER φ es' fs'.toList) :
    ∃ w', (setObj r (.map fs' clock')).run P w = .ok () w' ∧ Stp φ s w φ { s with h := s.h.set b (.map es' clock') } w' ∧ Rel φ { s with h := s.h.set b (.map es' clock') } w' := by
  obtain ⟨fs, h1, h2⟩ := h.map hb hr
  have := h.put_old (b := b) (o := .map es' clock') (ro := .map fs' clock') (by simp [hb]) hr (.map he)
  exact ⟨_, by simp [setObj, Sem.run, h1], this.2, this.1⟩

theorem run_getObj_of {w : World} {r : Nat} {fs : Array MapEntry} {clock : Nat} (h : w.heap[r]? = some (.map fs clock)) : (getObj r).run P w = .ok (.map fs clock) w := by simp [getObj, Sem.run, h]

section
variable (hD : TabOk P D)
include hD

theorem zeroAV_ok {t : TypeId} {v : AV} (h : zeroAV D t = some v) (w : World) : ∃ u, VR φ v u ∧ (zeroValue t).run P w = .ok u w := by
  unfold zeroAV at h
  split at h
  · rename_i i hi
    obtain ⟨u, h1, h2⟩ := run_zero hD hi h w
    exact ⟨u, constAV_ok h2, h1⟩
  · simp at h

theorem lookupA_ok (hr : Rel φ s w) {t : TypeId} {m k v : AV} {mv kv : Value} {ok : Bool} (hm : VR φ m mv) (hk : VR φ k kv) (h : lookupA D s t m k ok = some v) :
    ∃ u, VR φ v u ∧ (Instr.lookup t mv kv ok).run P w = .ok u w := by
  unfold lookupA at h
  split at h
  · rename_i kt et sz by' z0 hd0 hi
    obtain ⟨de, _, hde, hu⟩ := run_under hD hi w
    obtain ⟨kt', et', rfl⟩ : ∃ a b, de = .map a b := by cases de <;> simp [tdOf] at hde; exact ⟨_, _, rfl⟩
    simp [tdOf] at hde
    obtain ⟨rfl, rfl⟩ := hde
    split at h
    · simp at h
    · rename_i hko
      simp at hko
      have hmiss : ∀ (w : World) (ei : TyI) (z : AV), D.ty.get et = some ei → ei.zero = some z → ∃ u, VR φ z u ∧ (zeroValue et).run P w = .ok u w := fun w ei z h1 h2 => by
        obtain ⟨u, g1, g2⟩ := run_zero hD h1 h2 w
        exact ⟨u, constAV_ok g2, g1⟩
      have hki : ∃ i0, D.ty.get kt = some i0 := by
        unfold keyOk keyN at hko
        split at hko
        · exact ⟨_, by assumption⟩
        · simp at hko
      obtain ⟨i0, hi0⟩ := hki
      split at h
      · simp at h
      · rename_i es hes
        have hget : ∃ fs : Array MapEntry, ER φ es fs.toList ∧ (mv = .map none ∧ fs = #[] ∨ ∃ r ck, mv = .map (some r) ∧ (getObj r).run P w = .ok (.map fs ck) w) := by
          unfold entriesA at hes
          split at hes
          · simp at hes; subst hes; cases hm; exact ⟨#[], trivial, .inl ⟨rfl, rfl⟩⟩
          · rename_i b
            split at hes
            · rename_i es' ck hb
              simp at hes
              subst hes
              cases hm with
              | map hrb =>
                obtain ⟨fs, g1, g2⟩ := hr.map hb hrb
                exact ⟨fs, g2, .inr ⟨_, _, rfl, run_getObj_of g1⟩⟩
            · simp at hes
          · simp at hes
        obtain ⟨fs, he, hg⟩ := hget
        have hck := keyOk_ok hD hk hko fs.isEmpty w
        split at h
        · simp at h
        · rename_i i v' hf
          obtain ⟨r', g1, g2⟩ := findKey_ok hD hr hi0 hk he hf
          obtain ⟨j, u, rfl, g3⟩ : ∃ j u, r' = some (j, u) ∧ VR φ v' u := by
            cases r' with
            | none => simp [FR] at g1
            | some p => obtain ⟨j, u⟩ := p; exact ⟨j, u, rfl, g1.2⟩
          simp at h
          subst h
          refine ⟨if ok then .tuple #[u, .bool true] else u, ?_, ?_⟩
          · cases ok
            · simpa using g3
            · simpa using VR.tuple (.cons g3 (.cons (.bool true) .nil))
          · rcases hg with ⟨rfl, rfl⟩ | ⟨r, ck, rfl, hg⟩
            · simp only [Instr.lookup, Sem.run_bind, hu, Result.andThen_ok, hck, g2, Sem.run_pure]
            · simp only [Instr.lookup, Sem.run_bind, hu, Result.andThen_ok, hg, hck, g2, Sem.run_pure]
        · rename_i hf
          obtain ⟨r', g1, g2⟩ := findKey_ok hD hr hi0 hk he hf
          obtain rfl : r' = none := by
            cases r' with
            | none => rfl
            | some p => simp [FR] at g1
          split at h
          · rename_i ei hei
            split at h
            · rename_i z hz
              obtain ⟨u, u1, u2⟩ := hmiss w ei z hei hz
              simp at h
              subst h
              refine ⟨if ok then .tuple #[u, .bool false] else u, ?_, ?_⟩
              · cases ok
                · simpa using u1
                · simpa using VR.tuple (.cons u1 (.cons (.bool false) .nil))
              · rcases hg with ⟨rfl, rfl⟩ | ⟨r, ck, rfl, hg⟩
                · simp only [Instr.lookup, Sem.run_bind, hu, Result.andThen_ok, hck, g2, Sem.run_pure, u2]
                · simp only [Instr.lookup, Sem.run_bind, hu, Result.andThen_ok, hg, hck, g2, Sem.run_pure, u2]
            · simp at h
          · simp at h
  · simp at h

omit hD in
theorem keyOk_ty {kt : TypeId} {k : AV} (h : keyOk D kt k = true) : ∃ i, D.ty.get kt = some i := by
  unfold keyOk keyN at h
  split at h
  · exact ⟨_, by assumption⟩
  · simp at h

omit hD in
theorem FR.none_inv {r : Option (Nat × Value)} (h : FR φ none r) : r = none := by
  cases r with
  | none => rfl
  | some p => simp [FR] at h

omit hD in
theorem FR.some_inv {i : Nat} {v : AV} {r : Option (Nat × Value)} (h : FR φ (some (i, v)) r) : ∃ u, r = some (i, u) ∧ VR φ v u := by
  cases r with
  | none => simp [FR] at h
  | some p =>
    obtain ⟨j, u⟩ := p
    obtain ⟨rfl, h⟩ := h
    exact ⟨u, rfl, h⟩

omit hD in
/-- The entry that was found bears the very key. -/
theorem found_key {kt : TypeId} {k : AV} {kv : Value} (hk : VR φ k kv) {es : List (AV × AV × Nat)} {fs : List MapEntry} (he : ER φ es fs) {i : Nat} {v : AV} (hf : findK D s.h kt k es 0 = some (some (i, v))) :
    ∃ e, fs[i]? = some e ∧ e.key = kv ∧ Instr.sameBits 10000 e.key kv = true := by
  obtain ⟨k', b, _, h2, h3⟩ := findK_at es 0 i v hf
  obtain ⟨e, g1, g2, g3, g4⟩ := he.get i k' v b (by simpa using h2)
  obtain ⟨_, h4⟩ := geq_eq (φ := φ) h3
  obtain ⟨e1, e2⟩ := h4 kv e.key hk g2
  exact ⟨e, g1, e1.symm, e2⟩

theorem mapTy {t kt et : TypeId} {sz by' : Nat} {z0 : Option AV} {hd0 : Bool} (hi : D.ty.get t = some { d := TD.map kt et, size := sz, bytes := by', zero := z0, held := hd0 }) (w : World) :
    (underlying t).run P w = .ok (.map kt et) w := by
  obtain ⟨de, _, hde, hu⟩ := run_under hD hi w
  obtain ⟨kt', et', rfl⟩ : ∃ a b, de = .map a b := by cases de <;> simp [tdOf] at hde; exact ⟨_, _, rfl⟩
  simp [tdOf] at hde
  obtain ⟨rfl, rfl⟩ := hde
  exact hu

theorem mapUpdA_ok (hr : Rel φ s w) {t : TypeId} {m k v : AV} {mv kv vv : Value} {s' : St} (hm : VR φ m mv) (hk : VR φ k kv) (hv : VR φ v vv) (h : mapUpdA D s t m k v = some s') :
    ∃ w', (Instr.mapUpdate t mv kv vv).run P w = .ok () w' ∧ Stp φ s w φ s' w' ∧ Rel φ s' w' := by
  unfold mapUpdA at h
  split at h
  · rename_i kt et sz by' z0 hd0 b hi
    have hu := mapTy hD hi w
    split at h
    · simp at h
    · rename_i hko
      simp at hko
      obtain ⟨i0, hi0⟩ := keyOk_ty hko
      have hck := keyOk_ok hD hk hko false w
      split at h
      · rename_i es clock hb
        cases hm with
        | map hrb =>
          rename_i r sh
          obtain ⟨fs, g1, g2⟩ := hr.map hb hrb
          split at h
          · simp at h
          · rename_i i v' hf
            simp at h
            subst h
            obtain ⟨r', f1, f2⟩ := findKey_ok hD hr hi0 hk g2 hf
            obtain ⟨u, rfl, f3⟩ := f1.some_inv
            obtain ⟨e, e1, e2, e3⟩ := found_key hk g2 hf
            have e1' : fs[i]? = some e := by simpa using e1
            have hks := run_keyThatStays (P := P) (w := w) e3
            have := hr.put_map (P := P) hb hrb (es' := setVal es i v) (clock' := clock) (fs' := fs.modify i fun e => { e with key := kv, val := vv }) (by
              simpa using ER.store i g2 hv (fun e' he' => by rw [e1] at he'; simp at he'; subst he'; exact e2))
            obtain ⟨w', w1, w2, w3⟩ := this
            refine ⟨w', ?_, w2, w3⟩
            simp only [Instr.mapUpdate, Sem.run_bind, hu, Result.andThen_ok, run_getObj_of g1, hck, f2]
            simp only [e1', Option.map_some, Option.getD_some, hks, Result.andThen_ok]
            exact w1
          · rename_i hf
            simp at h
            subst h
            obtain ⟨r', f1, f2⟩ := findKey_ok hD hr hi0 hk g2 hf
            obtain rfl := f1.none_inv
            have := hr.put_map (P := P) hb hrb (es' := es ++ [(k, v, clock)]) (clock' := clock + 1) (fs' := fs.push { key := kv, val := vv, born := clock }) (by
              simpa using g2.snoc (e := { key := kv, val := vv, born := clock }) hk hv rfl)
            obtain ⟨w', w1, w2, w3⟩ := this
            refine ⟨w', ?_, w2, w3⟩
            simp only [Instr.mapUpdate, Sem.run_bind, hu, Result.andThen_ok, run_getObj_of g1, hck, f2]
            exact w1
      · simp at h
  · simp at h

theorem deleteA_ok (hr : Rel φ s w) {t kt et : TypeId} {sz by' : Nat} {z0 : Option AV} {hd0 : Bool} (hi : D.ty.get t = some { d := TD.map kt et, size := sz, bytes := by', zero := z0, held := hd0 })
    {b : Nat} {k : AV} {mv kv : Value} (hm : VR φ (.map b) mv) (hk : VR φ k kv) (hko : keyOk D kt k = true) {es : List (AV × AV × Nat)} {clock : Nat} (hb : s.h.get b = some (.map es clock)) {r : Option (Nat × AV)}
    (hf : findK D s.h kt k es 0 = some r) {ats : Array TypeId} (ha : ats[0]? = some t) (ty : TypeId) :
    let s' : St := match r with | some (i, _) => { s with h := s.h.set b (.map (eraseAt es i) clock) } | none => { s with h := s.h.set b (.map es clock) }
    ∃ w', (Builtin.delete_ ats ty #[mv, kv]).run P w = .ok (.tuple #[]) w' ∧ Stp φ s w φ s' w' ∧ Rel φ s' w' := by
  have hu := mapTy hD hi w
  obtain ⟨i0, hi0⟩ := keyOk_ty hko
  cases hm with
  | map hrb =>
    rename_i rr sh
    obtain ⟨fs, g1, g2⟩ := hr.map hb hrb
    have hck := keyOk_ok hD hk hko fs.isEmpty w
    obtain ⟨r', f1, f2⟩ := findKey_ok hD hr hi0 hk g2 hf
    cases r with
    | none =>
      obtain rfl := f1.none_inv
      obtain ⟨w', w1, w2, w3⟩ := hr.put_map (P := P) hb hrb (es' := es) (clock' := clock) (fs' := fs) g2
      exact ⟨w', by simp [Builtin.delete_, ha, hu, run_getObj_of g1, hck, f2, w1], w2, w3⟩
    | some p =>
      obtain ⟨i, v⟩ := p
      obtain ⟨u, rfl, f3⟩ := f1.some_inv
      obtain ⟨w', w1, w2, w3⟩ := hr.put_map (P := P) hb hrb (es' := eraseAt es i) (clock' := clock) (fs' := fs.eraseIdxIfInBounds i) (by
        have := g2.erase i
        have e : (fs.eraseIdxIfInBounds i).toList = fs.toList.eraseIdx i := by simp [Array.toList_eraseIdxIfInBounds]
        rw [e]; exact this)
      exact ⟨w', by simp [Builtin.delete_, ha, hu, run_getObj_of g1, hck, f2, w1], w2, w3⟩

end
end Go.Eng
