/-
  The abstract interpreter, its soundness: entries of maps, ranges over maps.
-/
import Derived.Test.YtabjigkabgecaaaGreatDoorEng10
namespace Go.Eng
variable {P : Program} {D : Tab} {φ : Phi} {s : St} {w : World} {T : PT AV} {ρ : Operand → Value}

theorem ER.setBorn {x : AV} {xv : Value} (hx : VR φ x xv) : ∀ {es es' : List (AV × AV × Nat)} {fs : List MapEntry} {n : Nat}, ER φ es fs → setBorn es n x = some es' →
    ∃ i, fs.findIdx? (fun e => (e.born : Int) == (n : Int)) = some i ∧ ER φ es' (fs.modify i fun e => { e with val := xv })
  | [], es', [], n, _, h => by simp [Eng.setBorn] at h
  | (k, u, b) :: es, es', e :: fs, n, ⟨h1, h2, h3, h4⟩, h => by
    simp only [Eng.setBorn] at h
    split at h
    · rename_i hb
      have := beq_true hb
      simp at h
      subst h
      refine ⟨0, ?_, h1, hx, h3, h4⟩
      simp [List.findIdx?_cons, h3, this]
    · rename_i hb
      split at h
      · rename_i l hl
        simp at h
        subst h
        obtain ⟨i, g1, g2⟩ := ER.setBorn hx h4 hl
        have hne : ¬ ((e.born : Int) = (n : Int)) := by
          intro hc
          have : b = n := by omega
          subst this
          simp at hb
        refine ⟨i + 1, ?_, ?_⟩
        · simp [List.findIdx?_cons, hne, g1]
        · simp only [List.modify_succ_cons]
          exact ⟨h1, h2, h3, g2⟩
      · simp at h

theorem entryStoreA_ok (hr : Rel φ s w) {t : TypeId} {m st x : AV} {mv sv xv : Value} {s' : St} (hm : VR φ m mv) (hs : VR φ st sv) (hx : VR φ x xv) (h : entryStoreA s m st x = some s') :
    ∃ w', (Instr.entryStore t mv sv xv).run P w = .ok () w' ∧ Stp φ s w φ s' w' ∧ Rel φ s' w' := by
  unfold entryStoreA at h
  split at h
  · rename_i b k n
    split at h
    · rename_i es clock hb
      split at h
      · rename_i hn
        split at h
        · rename_i es' he
          simp at h
          subst h
          cases hm with
          | map hrb =>
            cases hs
            obtain ⟨fs, g1, g2⟩ := hr.map hb hrb
            obtain ⟨i, f1, f2⟩ := g2.setBorn hx he
            have hnn : ((n.toNat : Nat) : Int) = n := by omega
            rw [hnn] at f1
            obtain ⟨w', w1, w2, w3⟩ := hr.put_map (P := P) hb hrb (es' := es') (clock' := clock) (fs' := fs.modify i fun e => { e with val := xv }) (by simpa using f2)
            refine ⟨w', ?_, w2, w3⟩
            have f1' : fs.findIdx? (fun e => (e.born : Int) == n) = some i := by
              obtain ⟨l⟩ := fs
              simpa using f1
            simp [Instr.entryStore, run_getObj_of g1, asInt, asIntOf, f1', w1]
        · simp at h
      · simp at h
    · simp at h
  · simp at h

section
variable (hD : TabOk P D)
include hD

theorem mapEntryA_ok (hr : Rel φ s w) {t : TypeId} {m k v : AV} {mv kv : Value} {s' : St} (hm : VR φ m mv) (hk : VR φ k kv) (h : mapEntryA D s t m k = some (v, s')) :
    ∃ u w', VR φ v u ∧ (Instr.mapEntry t mv kv).run P w = .ok u w' ∧ Stp φ s w φ s' w' ∧ Rel φ s' w' := by
  unfold mapEntryA at h
  split at h
  · rename_i kt et sz by' z0 hd0 b hi
    have hu := mapTy hD hi w
    split at h
    · simp at h
    · rename_i hko
      simp at hko
      obtain ⟨i0, hi0⟩ := keyOk_ty hko
      have hck := keyOk_ok hD hk hko false w
      split at h
      · rename_i es clock hb
        cases hm with
        | map hrb =>
          rename_i r sh
          obtain ⟨fs, g1, g2⟩ := hr.map hb hrb
          split at h
          · simp at h
          · rename_i i v' hf
            split at h
            · rename_i k0 v0 born hei
              simp at h
              obtain ⟨rfl, rfl⟩ := h
              obtain ⟨r', f1, f2⟩ := findKey_ok hD hr hi0 hk g2 hf
              obtain ⟨u, rfl, f3⟩ := f1.some_inv
              obtain ⟨e, e1, e2, e3⟩ := found_key hk g2 hf
              obtain ⟨e', d1, _, _, d4⟩ := g2.get i k0 v0 born hei
              rw [e1] at d1
              simp at d1
              subst d1
              have e1' : fs[i]? = some e := by simpa using e1
              have hks := run_keyThatStays (P := P) (w := w) e3
              obtain ⟨w', w1, w2, w3⟩ := hr.put_map (P := P) hb hrb (es' := es) (clock' := clock) (fs' := fs.modify i fun e => { e with key := kv }) (by
                simpa using ER.touch i g2 (fun e' he' => by rw [e1] at he'; simp at he'; subst he'; exact e2))
              have hself : Rel φ s w' := by
                constructor
                · intro c x hc
                  have : (s.h.set b (.map es clock)).get c = some x := by
                    rw [PT.get_set]
                    by_cases e : c = b
                    · subst e; rw [hb] at hc; simpa using hc
                    · rw [if_neg e]; exact hc
                  exact w3.obj c x this
                · intro c c' r1 s1 s2 h1 h2 h3 h4
                  refine w3.inj c c' r1 s1 s2 ?_ ?_ h3 h4
                  · rw [PT.get_set]; split
                    · rfl
                    · exact h1
                  · rw [PT.get_set]; split
                    · rfl
                    · exact h2
                · exact w3.fresh
                · exact w3.freshc
                · exact w3.glob
                · exact w3.gnx
                · exact w3.facts
              have hstp : Stp φ s w φ s w' := by
                constructor
                · exact w2.ext
                · intro c r1 s1 h1 h2
                  refine w2.own c r1 s1 ?_ h2
                  rw [PT.get_set]; split
                  · rfl
                  · exact h1
                · exact w2.keep
                · exact w2.size
                · exact w2.os
                · exact w2.out
                · exact w2.tape
                · exact Nat.le_refl _
                · exact Nat.le_refl _
                · exact fun _ _ => rfl
              refine ⟨_, w', .tuple (.cons f3 (.cons (.int .i64 _) .nil)), ?_, hstp, hself⟩
              simp only [Instr.mapEntry, Sem.run_bind, hu, Result.andThen_ok, run_getObj_of g1, hck, f2]
              simp only [e1', Option.map_some, Option.getD_some, hks, Result.andThen_ok, w1, Sem.run_pure, goInt, d4]
            · simp at h
          · rename_i hf
            split at h
            · rename_i z hz
              simp at h
              obtain ⟨rfl, rfl⟩ := h
              obtain ⟨r', f1, f2⟩ := findKey_ok hD hr hi0 hk g2 hf
              obtain rfl := f1.none_inv
              obtain ⟨u, u1, u2⟩ := zeroAV_ok (φ := φ) hD hz w
              obtain ⟨w', w1, w2, w3⟩ := hr.put_map (P := P) hb hrb (es' := es ++ [(k, z, clock)]) (clock' := clock + 1) (fs' := fs.push { key := kv, val := u, born := clock }) (by
                simpa using g2.snoc (e := { key := kv, val := u, born := clock }) hk u1 rfl)
              refine ⟨_, w', .tuple (.cons u1 (.cons (.int .i64 _) .nil)), ?_, w2, w3⟩
              simp only [Instr.mapEntry, Sem.run_bind, hu, Result.andThen_ok, run_getObj_of g1, hck, f2, u2, w1, Sem.run_pure, goInt]
            · simp at h
      · simp at h
  · simp at h

end

/-! ### Ranges -/
theorem Rel.iter (h : Rel φ s w) {b : Nat} {m : Option Nat} {since : Nat} {seen : List Nat} {st : Nat} (hb : s.h.get b = some (.iter m since seen st)) {r sh : Nat} (hr : φ.blk b = some (r, sh)) :
    sh = 0 ∧ ∃ mr, w.heap[r]? = some (.mapIter mr since seen.toArray st) ∧ (match m, mr with | none, none => True | some m, some x => ∃ sm, φ.blk m = some (x, sm) | _, _ => False) := by
  obtain ⟨r', sh', ro, h1, h2, h3⟩ := h.obj b _ hb
  rw [hr] at h1
  simp at h1
  obtain ⟨rfl, rfl⟩ := h1
  cases h3 with
  | iter0 => exact ⟨rfl, none, h2, trivial⟩
  | iter1 hm => exact ⟨rfl, some _, h2, ⟨_, hm⟩⟩

theorem lastN_back : ∀ {l : List Nat} {x : Nat}, lastN l = some x → l.toArray.back? = some x
  | [], x, h => by simp [lastN] at h
  | [a], x, h => by simp [lastN] at h; subst h; simp
  | a :: b :: r, x, h => by
    simp only [lastN] at h
    have := lastN_back h
    simpa using this

theorem ER.findBorn : ∀ {es : List (AV × AV × Nat)} {fs : List MapEntry} {n : Nat} {v : AV}, ER φ es fs → findBorn es n = some v → ∃ e, fs.find? (fun e => e.born == n) = some e ∧ VR φ v (.tuple #[e.key, e.val])
  | [], [], n, v, _, h => by simp [Eng.findBorn] at h
  | (k, u, b) :: es, e :: fs, n, v, ⟨h1, h2, h3, h4⟩, h => by
    simp only [Eng.findBorn] at h
    split at h
    · rename_i hb
      have := beq_true hb
      simp at h
      subst h
      exact ⟨e, by simp [h3, this], by simpa using VR.tuple (.cons h1 (.cons h2 .nil))⟩
    · rename_i hb
      obtain ⟨e', g1, g2⟩ := ER.findBorn h4 h
      refine ⟨e', ?_, g2⟩
      have : ¬ e.born = n := by
        intro hc
        subst h3; subst hc
        simp at hb
      simp [this, g1]

theorem entryA_ok (hr : Rel φ s w) {it v : AV} {iv : Value} (hi : VR φ it iv) (h : entryA s it = some v) : ∃ u, VR φ v u ∧ (Instr.entry iv).run P w = .ok u w := by
  unfold entryA at h
  split at h
  · rename_i r
    cases hi with
    | ptr hrb =>
      rename_i rr sh
      split at h
      · rename_i m since seen stepped hit
        obtain ⟨rfl, mr, g1, g2⟩ := hr.iter hit hrb
        split at h
        · rename_i es clock stamp hm hl
          split at h
          · rename_i hck
            have := beq_true hck
            subst this
            cases mr with
            | none => simp at g2
            | some x =>
              obtain ⟨sm, g2⟩ := g2
              obtain ⟨fs, f1, f2⟩ := hr.map hm g2
              obtain ⟨e, e1, e2⟩ := f2.findBorn h
              have hb := lastN_back hl
              have e1' : fs.find? (fun e => e.born == stamp) = some e := by simpa using e1
              refine ⟨_, e2, ?_⟩
              simp only [Instr.entry, Sem.run_bind, getObj, Sem.run, g1, Result.andThen_ok, hb, f1]
              simp [e1']
          · simp at h
        · simp at h
      · simp at h
  · simp at h

theorem rmBorn_iff : ∀ (l : List Nat) (n : Nat), rmBorn l n = l.toArray.contains n
  | [], n => by simp [rmBorn]
  | x :: r, n => by
    simp only [rmBorn, rmBorn_iff r n]
    rw [Bool.eq_iff_iff]
    simp
    constructor
    · rintro (h | h)
      · exact .inl h.symm
      · exact .inr h
    · rintro (h | h)
      · exact .inl h.symm
      · exact .inr h

theorem ER.filter (p : Nat → Bool) : ∀ {es : List (AV × AV × Nat)} {fs : List MapEntry}, ER φ es fs → ER φ (es.filter fun e => p e.2.2) (fs.filter fun e => p e.born)
  | [], [], _ => by simp [ER]
  | (k, u, b) :: es, e :: fs, ⟨h1, h2, h3, h4⟩ => by
    subst h3
    by_cases hp : p e.born = true
    · simp only [List.filter_cons, hp, if_true]
      exact ⟨h1, h2, rfl, ER.filter p h4⟩
    · simp only [List.filter_cons, hp]
      exact ER.filter p h4

theorem ER.append : ∀ {es es' : List (AV × AV × Nat)} {fs fs' : List MapEntry}, ER φ es fs → ER φ es' fs' → ER φ (es ++ es') (fs ++ fs')
  | [], _, [], _, _, h => h
  | _ :: _, _, _ :: _, _, ⟨h1, h2, h3, h4⟩, h => ⟨h1, h2, h3, h4.append h⟩

theorem ER.all (p : Nat → Bool) : ∀ {es : List (AV × AV × Nat)} {fs : List MapEntry}, ER φ es fs → es.all (fun e => p e.2.2) = fs.all (fun e => p e.born)
  | [], [], _ => rfl
  | (k, u, b) :: es, e :: fs, ⟨h1, h2, h3, h4⟩ => by
    subst h3
    simp only [List.all_cons, ER.all p h4]

theorem Rel.drawn (h : Rel φ s w) (n : Nat) : Rel φ s { w with drawn := n } := ⟨h.obj, h.inj, h.fresh, h.freshc, h.glob, h.gnx, h.facts⟩
theorem Stp.drawn (φ : Phi) (s : St) (w : World) (n : Nat) : Stp φ s w φ s { w with drawn := n } :=
  ⟨Phi.le.rfl' φ, fun b _ sh h h' => .inr ⟨b, sh, h, h'⟩, fun _ _ _ => rfl, Nat.le_refl _, rfl, rfl, rfl, Nat.le_refl _, Nat.le_refl _, fun _ _ => rfl⟩

theorem choose_next (n : Nat) (hn : 0 < n) (w : World) : ∃ k d, k < n ∧ (choose (.mapNext n)).run P w = .ok k { w with drawn := d } := by
  by_cases h : n ≤ 1
  · exact ⟨0, w.drawn, by omega, by simp [Question.forced, h]⟩
  · refine ⟨w.tape w.drawn (.mapNext n) % n, w.drawn + 1, Nat.mod_lt _ hn, ?_⟩
    simp [Question.forced, Question.cut, h]

theorem ble_dec (a b : Nat) : Nat.ble a b = decide (a ≤ b) := by rw [Bool.eq_iff_iff]; simp [Nat.ble_eq]
theorem blt_dec (a b : Nat) : Nat.blt a b = decide (a < b) := by rw [Bool.eq_iff_iff]; simp [Nat.blt, Nat.ble_eq, Nat.lt_iff_add_one_le]

theorem next_pick (hr : Rel φ s w) {r rr m since last x sm clock : Nat} {seen : List Nat} {old new : List (AV × AV × Nat)} {l : List MapEntry} {outs : List (AV × St)} (hit : s.h.get r = some (.iter (some m) since seen last)) (hrb : φ.blk r = some (rr, 0))
    (g1 : w.heap[rr]? = some (.mapIter (some x) since seen.toArray last)) (g2 : φ.blk m = some (x, sm)) (f1 : w.heap[x]? = some (.map ⟨l⟩ clock))
    (hold : ER φ old ((l.filter fun e => !seen.toArray.contains e.born).filter (·.born < since))) (hnew : ER φ new ((l.filter fun e => !seen.toArray.contains e.born).filter (·.born ≥ since)))
    (hgo : (!seen.toArray.isEmpty && !(⟨l⟩ : Array MapEntry).isEmpty && (⟨l⟩ : Array MapEntry).all (·.born ≥ last)) = false)
    (h : (if old.isEmpty then [(.tuple [.bool false], s)] else []) ++ (old ++ new).map (stepTo s r m since seen clock) = outs) (ty : TypeId) :
    ∃ v s', (v, s') ∈ outs ∧ ∃ u w', (Instr.next (.pointer (some ⟨rr, 0 + 0, none⟩)) false ty).run P w = .ok u w' ∧ VR φ v u ∧ Stp φ s w φ s' w' ∧ Rel φ s' w' := by
  generalize hlo : (l.filter fun e => !seen.toArray.contains e.born).filter (·.born < since) = lo at hold
  generalize hln : (l.filter fun e => !seen.toArray.contains e.born).filter (·.born ≥ since) = ln at hnew
  have hcand : ((if ((((⟨l⟩ : Array MapEntry).filter fun e => !seen.toArray.contains e.born).filter (·.born < since)).isEmpty) then #[none] else #[]) ++
      ((((⟨l⟩ : Array MapEntry).filter fun e => !seen.toArray.contains e.born).filter (·.born < since)) ++ (((⟨l⟩ : Array MapEntry).filter fun e => !seen.toArray.contains e.born).filter (·.born ≥ since))).map some : Array (Option MapEntry)) =
      ⟨(if lo.isEmpty then [none] else []) ++ (lo ++ ln).map some⟩ := by
    simp only [List.filter_toArray, hlo, hln]
    cases lo <;> simp
  have hsz : 0 < ((if lo.isEmpty then [none] else []) ++ (lo ++ ln).map some : List (Option MapEntry)).length := by
    cases lo <;> simp
  obtain ⟨k, d, hk, hch⟩ := choose_next (P := P) _ hsz w
  have hlen := hold.length
  have hlen2 := hnew.length
  have hrun : ∀ c, ((if lo.isEmpty then [none] else []) ++ (lo ++ ln).map some : List (Option MapEntry))[k]? = some c →
      (Instr.next (.pointer (some ⟨rr, 0 + 0, none⟩)) false ty).run P w = (match c with
        | some e => (do setObj rr (.mapIter (some x) since (seen.toArray.push e.born) clock); pure (.tuple #[.bool true, e.key, e.val]) : Sem Value)
        | none => pure (.tuple #[.bool false])).run P { w with drawn := d } := by
    intro c hc
    have hgo1 : ¬ ((!seen.toArray.isEmpty && !(⟨l⟩ : Array MapEntry).isEmpty && (⟨l⟩ : Array MapEntry).all (·.born ≥ last)) = true) := by rw [hgo]; simp
    simp only [Instr.next, Nat.add_zero, Sem.run_bind, getObj, Sem.run, g1, Result.andThen_ok, f1]
    rw [if_neg hgo1]
    rw [hcand]
    simp only [Array.size] at hch ⊢
    rw [Sem.run_bind, hch]
    simp only [Result.andThen_ok, List.getElem?_toArray, hc]
    cases c <;> rfl
  have hd := hr.drawn d
  have hs := Stp.drawn φ s w d
  subst h
  by_cases hover : lo = [] ∧ k = 0
  · obtain ⟨rfl, rfl⟩ := hover
    have : old = [] := by cases old <;> simp_all
    subst this
    refine ⟨_, _, List.mem_append_left _ (List.mem_singleton.2 rfl), _, _, ?_, .tuple (.cons (.bool false) .nil), hs, hd⟩
    rw [hrun none (by simp)]
    rfl
  · -- an entry
    have : ∃ (i : Nat) (e : MapEntry) (a : AV × AV × Nat), (lo ++ ln)[i]? = some e ∧ (old ++ new)[i]? = some a ∧ VR φ a.1 e.key ∧ VR φ a.2.1 e.val ∧ e.born = a.2.2 ∧ ((if lo.isEmpty then [none] else []) ++ (lo ++ ln).map some : List (Option MapEntry))[k]? = some (some e) := by
      have hboth := hold.append hnew
      have hlb := hboth.length
      by_cases hl0 : lo = []
      · subst hl0
        have hk0 : k ≠ 0 := fun h => hover ⟨rfl, h⟩
        obtain ⟨i, rfl⟩ : ∃ i, k = i + 1 := ⟨k - 1, by omega⟩
        simp at hk
        have h2 : i < (old ++ new).length := by rw [hlb]; simpa using hk
        obtain ⟨e, e1, e2, e3, e4⟩ := hboth.get i (old ++ new)[i].1 (old ++ new)[i].2.1 (old ++ new)[i].2.2 (List.getElem?_eq_getElem h2)
        refine ⟨i, e, (old ++ new)[i], e1, List.getElem?_eq_getElem h2, e2, e3, e4, ?_⟩
        simp at e1 ⊢
        exact e1
      · have hne : lo.isEmpty = false := by cases lo <;> simp_all
        simp [hne] at hk
        have h2 : k < (old ++ new).length := by rw [hlb]; simpa using hk
        obtain ⟨e, e1, e2, e3, e4⟩ := hboth.get k (old ++ new)[k].1 (old ++ new)[k].2.1 (old ++ new)[k].2.2 (List.getElem?_eq_getElem h2)
        refine ⟨k, e, (old ++ new)[k], e1, List.getElem?_eq_getElem h2, e2, e3, e4, ?_⟩
        simp only [hne, Bool.false_eq_true, if_false, List.nil_append, List.getElem?_map, e1]
        rfl
    obtain ⟨i, e, a, h1, h2, h3, h4, h5, h6⟩ := this
    have hput := hd.put_old (b := r) (r := rr) (sh := 0) (o := .iter (some m) since (seen ++ [a.2.2]) clock) (ro := .mapIter (some x) since (seen ++ [a.2.2]).toArray clock) (by simp [hit]) hrb (.iter1 g2 _ _ _)
    refine ⟨_, _, List.mem_append_right _ (List.mem_map.2 ⟨a, List.mem_of_getElem? h2, rfl⟩), .tuple #[.bool true, e.key, e.val], _, ?_, .tuple (.cons (.bool true) (.cons h3 (.cons h4 .nil))), hs.trans hput.2, hput.1⟩
    rw [hrun _ h6]
    simp [setObj, Sem.run, g1, h5]

theorem nextA_ok (hr : Rel φ s w) {it : AV} {iv : Value} {str : Bool} {outs : List (AV × St)} (hi : VR φ it iv) (h : nextA s it str = some outs) (ty : TypeId) :
    ∃ v s', (v, s') ∈ outs ∧ ∃ u w', (Instr.next iv str ty).run P w = .ok u w' ∧ VR φ v u ∧ Stp φ s w φ s' w' ∧ Rel φ s' w' := by
  unfold nextA at h
  split at h
  · rename_i r
    cases hi with
    | ptr hrb =>
      rename_i rr sh
      split at h
      · rename_i since seen st hit
        obtain ⟨rfl, mr, g1, g2⟩ := hr.iter hit hrb
        cases mr with
        | some x => simp at g2
        | none =>
          simp at h
          subst h
          refine ⟨_, _, List.mem_singleton.2 rfl, _, w, ?_, .tuple (.cons (.bool false) .nil), Stp.refl _ _ _, hr⟩
          simp [Instr.next, getObj, Sem.run, g1]
      · rename_i m since seen last hit
        obtain ⟨rfl, mr, g1, g2⟩ := hr.iter hit hrb
        cases mr with
        | none => simp at g2
        | some x =>
          obtain ⟨sm, g2⟩ := g2
          split at h
          · rename_i es clock hm
            obtain ⟨fs, f1, f2⟩ := hr.map hm g2
            split at h
            · simp at h
            · rename_i hgo
              simp only [Option.some.injEq] at h
              obtain ⟨l⟩ := fs
              simp only at f2
              have hgo' : (!seen.toArray.isEmpty && !(⟨l⟩ : Array MapEntry).isEmpty && (⟨l⟩ : Array MapEntry).all (·.born ≥ last)) = false := by
                simp only [Bool.not_eq_true] at hgo
                rw [← hgo]
                have hall := f2.all (fun n => Nat.ble last n)
                have hlen := f2.length
                have e1 : (!(⟨l⟩ : Array MapEntry).isEmpty) = !es.isEmpty := by
                  cases es <;> cases l <;> simp_all
                have e2 : (⟨l⟩ : Array MapEntry).all (·.born ≥ last) = es.all fun e => last.ble e.2.2 := by
                  rw [hall]
                  simp only [List.all_toArray]
                  congr 1
                  exact funext fun e => (ble_dec last e.born).symm
                rw [e1, e2]
                simp
              have hold : ER φ (oldOf seen since es) ((l.filter fun e => !seen.toArray.contains e.born).filter (·.born < since)) := by
                have := (f2.filter (fun n => !rmBorn seen n)).filter (fun n => Nat.blt n since)
                unfold oldOf
                rw [show (fun e : MapEntry => decide (e.born < since)) = fun e => Nat.blt e.born since from funext fun e => (blt_dec e.born since).symm,
                  show (fun e : MapEntry => !seen.toArray.contains e.born) = fun e => !rmBorn seen e.born from funext fun e => by rw [rmBorn_iff]]
                exact this
              have hnew : ER φ (newOf seen since es) ((l.filter fun e => !seen.toArray.contains e.born).filter (·.born ≥ since)) := by
                have := (f2.filter (fun n => !rmBorn seen n)).filter (fun n => Nat.ble since n)
                unfold newOf
                rw [show (fun e : MapEntry => decide (e.born ≥ since)) = fun e => Nat.ble since e.born from funext fun e => (ble_dec since e.born).symm,
                  show (fun e : MapEntry => !seen.toArray.contains e.born) = fun e => !rmBorn seen e.born from funext fun e => by rw [rmBorn_iff]]
                exact this
              exact next_pick hr hit hrb g1 g2 f1 hold hnew hgo' h ty
          · simp at h
      · simp at h
  · simp at h

end Go.Eng
