/-
  The abstract interpreter, its soundness: cells that are read and written.
-/
import Derived.Test.YtabjigkabgecaaaGreatDoorEng5
namespace Go.Eng
variable {P : Program} {D : Tab} {φ : Phi} {s : St} {w : World} {T : PT AV} {ρ : Operand → Value}

theorem setRow_eq {w : World} {g : Nat} {cur arr : Array Value} {t : TypeId} {fr : Nat × Nat} (hg : w.heap[g]? = some (.cells cur t fr)) :
    w.setRow g arr = { w with heap := w.heap.setIfInBounds g (.cells arr t fr) } := by
  have hlt : g < w.heap.size := (Array.getElem?_eq_some_iff.1 hg).1
  have hv : w.heap[g] = .cells cur t fr := (Array.getElem?_eq_some_iff.1 hg).2
  unfold World.setRow
  cases w with
  | mk heap tape drawn os output =>
    congr 1
    apply Array.ext
    · simp
    · intro k h1 h2
      simp only [Array.getElem_modify]
      split
      · rename_i hk; subst hk; simp at hv; simp [hv]
      · rename_i hk; rw [Array.getElem_setIfInBounds_ne (by simp at h1; omega) hk]

theorem Rel.cells (h : Rel φ s w) {b : Nat} {c : PT AV} {n : Nat} {tl : Option (Nat × Nat)} (hb : s.h.get b = some (.cells c n tl)) :
    ∃ r sh arr e fz, φ.blk b = some (r, sh) ∧ w.heap[r]? = some (.cells arr e fz) ∧ CellsR φ sh c n arr ∧
      (tl = none ∧ fz = (0, 0) ∨ ∃ k z cp, tl = some (k, z) ∧ φ.cap k = some cp ∧ arr.size = sh + cp * z ∧ (fz = (0, 0) ∨ z = 1 ∧ arr.size ≤ fz.1)) := by
  obtain ⟨r, sh, ro, h1, h2, h3⟩ := h.obj b _ hb
  cases h3 with
  | cells hc => exact ⟨r, sh, _, _, _, h1, h2, hc, .inl ⟨rfl, rfl⟩⟩
  | tail hc hk hs hf => exact ⟨r, sh, _, _, _, h1, h2, hc, .inr ⟨_, _, _, rfl, hk, hs, hf⟩⟩

/-- 'storeCells', also where a string's mark stands behind the cells. -/
theorem storeCells_run (g o : Nat) (t : TypeId) (fz : Nat × Nat) : ∀ (vs : List Value) (i : Nat) (cur : Array Value) (w : World), w.heap[g]? = some (.cells cur t fz) → (fz = (0, 0) ∨ cur.size ≤ fz.1) → o + i + vs.length ≤ cur.size → (∀ v ∈ vs, v.oneCell' = true) →
    (storeCells ⟨g, o, none⟩ vs i).run P w = .ok () (w.setRow g (cur.toList.take (o + i) ++ vs ++ cur.toList.drop (o + i + vs.length)).toArray)
  | [], i, cur, w, hg, _, _, _ => by
    simp only [storeCells, List.append_nil, List.length_nil, Nat.add_zero, List.take_append_drop, Array.toArray_toList]
    rw [setRow_self w g cur t fz hg]
    rfl
  | v :: rest, i, cur, w, hg, hf, hl, h1 => by
    have hi : o + i < cur.size := by simp at hl; omega
    have hadd : (⟨g, o, none⟩ : Addr).add i = ⟨g, o + i, none⟩ := by unfold Addr.add; split <;> simp_all
    have hcell : w.cell? ⟨g, o + i, none⟩ = some cur[o + i] := by simp [World.cell?, hg, hi]
    have hfro : w.frozen? ⟨g, o + i, none⟩ = false := by
      rcases hf with rfl | hf
      · simp [World.frozen?, hg]
      · obtain ⟨lo, hi'⟩ := fz
        simp only [World.frozen?, hg]
        simp at hf ⊢
        omega
    have hst : (store ((⟨g, o, none⟩ : Addr).add i) v).run P w = .ok () (w.setRow g (cur.setIfInBounds (o + i) v)) := by
      rw [hadd, run_store P w _ v _ (h1 v (by simp)), hcell]
      simp [hfro, setCell_eq_setRow w g (o + i) cur t fz v hg]
    have ih := storeCells_run g o t fz rest (i + 1) (cur.setIfInBounds (o + i) v) (w.setRow g (cur.setIfInBounds (o + i) v)) (setRow_heap w g cur _ t _ hg) (by simpa using hf) (by simp at hl ⊢; omega) (fun x hx => h1 x (by simp [hx]))
    simp only [storeCells, Sem.run_bind, hst, Result.andThen_ok, ih, setRow_setRow]
    congr 3
    have e := list_seg_step cur.toList (o + i) v rest (by simp at hl ⊢; omega)
    simpa [Array.toList_setIfInBounds, Nat.add_assoc] using e

theorem cell?_of {w : World} {r i : Nat} {arr : Array Value} {e : TypeId} {fr : Nat × Nat} (h : w.heap[r]? = some (.cells arr e fr)) : w.cell? ⟨r, i, none⟩ = arr[i]? := by
  simp [World.cell?, h]

theorem CellsR.list {sh : Nat} {c : PT AV} {n : Nat} {arr : Array Value} (h : CellsR φ sh c n arr) : ∀ (k o : Nat) (l : List AV), o + k ≤ n → c.getAll o k = some l →
    ∃ us, VRs φ l us ∧ us.length = k ∧ ∀ (j : Nat) (v : Value), us[j]? = some v → arr[sh + o + j]? = some v := by
  intro k
  induction k with
  | zero => intro o l _ hl; simp [PT.getAll] at hl; subst hl; exact ⟨[], .nil, rfl, by simp⟩
  | succ k ih =>
    intro o l hn hl
    simp only [PT.getAll] at hl
    split at hl
    · simp at hl
    · rename_i x hx
      split at hl
      · simp at hl
      · rename_i r hr
        simp at hl
        subst hl
        obtain ⟨us, h1, h2, h3⟩ := ih (o + 1) r (by omega) hr
        obtain ⟨a, v, h4, h5, h6⟩ := h.2 o (by omega)
        rw [hx] at h4
        simp at h4
        subst h4
        refine ⟨v :: us, .cons h6 h1, by simp [h2], fun j u hj => ?_⟩
        cases j with
        | zero => simp at hj; subst hj; simpa using h5
        | succ j =>
          simp at hj
          have := h3 j u hj
          rw [show sh + o + (j + 1) = sh + (o + 1) + j by omega]; exact this

/-- Reading k cells. -/
theorem read_cells (h : Rel φ s w) {b o k n : Nat} {c : PT AV} {tl : Option (Nat × Nat)} {l : List AV} (hb : s.h.get b = some (.cells c n tl)) (hn : o + k ≤ n) (hl : c.getAll o k = some l)
    {r sh : Nat} (hr : φ.blk b = some (r, sh)) : ∃ us, VRs φ l us ∧ us.length = k ∧ (loadCells ⟨r, sh + o, none⟩ k).run P w = .ok us.toArray w := by
  obtain ⟨r', sh', arr, e, fz, h1, h2, h3, _⟩ := h.cells hb
  rw [hr] at h1
  simp at h1
  obtain ⟨rfl, rfl⟩ := h1
  obtain ⟨us, h4, h5, h6⟩ := h3.list k o l hn hl
  refine ⟨us, h4, h5, ?_⟩
  have := run_loadCells_list (P := P) w ⟨r, sh + o, none⟩ us (fun j v hj => by
    have hadd : (⟨r, sh + o, none⟩ : Addr).add j = ⟨r, sh + o + j, none⟩ := by unfold Addr.add; split <;> simp_all
    rw [hadd, cell?_of h2]; exact h6 j v hj)
  rw [h5] at this
  exact this

theorem read_one (h : Rel φ s w) {b o n : Nat} {c : PT AV} {tl : Option (Nat × Nat)} {a : AV} (hb : s.h.get b = some (.cells c n tl)) (hn : o < n) (hl : c.get o = some a)
    {r sh : Nat} (hr : φ.blk b = some (r, sh)) : ∃ u, VR φ a u ∧ (load ⟨r, sh + o, none⟩).run P w = .ok u w := by
  obtain ⟨r', sh', arr, e, fz, h1, h2, h3, _⟩ := h.cells hb
  rw [hr] at h1
  simp at h1
  obtain ⟨rfl, rfl⟩ := h1
  obtain ⟨a', v, h4, h5, h6⟩ := h3.2 o hn
  rw [hl] at h4
  simp at h4
  subst h4
  exact ⟨v, h6, by simp [cell?_of h2, h5]⟩

theorem ones_ok : ∀ {l : List AV} {us : List Value}, ones l = true → VRs φ l us → ∀ u ∈ us, u.oneCell' = true := by
  intro l
  induction l with
  | nil => intro us _ h; cases h; simp
  | cons a l ih =>
    intro us h hv
    cases hv with
    | cons hv hs =>
      rename_i v us
      intro u hu
      have h2 : ones l = true ∧ v.oneCell' = true := by
        cases hv with
        | sym _ hp => simp [ones] at h; exact ⟨h, by cases v <;> first | rfl | simp [plainV] at hp⟩
        | _ => simp [ones] at h <;> exact ⟨h, rfl⟩
      rcases List.mem_cons.1 hu with rfl | hu
      · exact h2.2
      · exact ih h2.1 hs u hu

theorem CellsR.write {sh : Nat} {c : PT AV} {n : Nat} {arr : Array Value} (h : CellsR φ sh c n arr) {o : Nat} {vs : List AV} {us : List Value} (hv : VRs φ vs us) (hn : o + vs.length ≤ n) :
    CellsR φ sh (c.setAll o vs) n (arr.toList.take (sh + o) ++ us ++ arr.toList.drop (sh + o + us.length)).toArray ∧
      (arr.toList.take (sh + o) ++ us ++ arr.toList.drop (sh + o + us.length)).toArray.size = arr.size := by
  have hl := hv.length
  have hs := h.1
  have hsize : (arr.toList.take (sh + o) ++ us ++ arr.toList.drop (sh + o + us.length)).toArray.size = arr.size := by
    simp; omega
  refine ⟨⟨by rw [hsize]; exact hs, fun i hi => ?_⟩, hsize⟩
  rw [PT.get_setAll]
  by_cases hin : o ≤ i ∧ i < o + vs.length
  · rw [if_pos hin]
    obtain ⟨u, h1, h2⟩ := hv.get (i - o) _ (List.getElem?_eq_getElem (by omega))
    refine ⟨_, u, List.getElem?_eq_getElem (by omega), ?_, h2⟩
    simp only [List.getElem?_toArray]
    rw [List.append_assoc, List.getElem?_append_right (by simp; omega), List.getElem?_append_left (by simp; omega)]
    simp only [List.length_take, Array.length_toList]
    rw [show sh + i - min (sh + o) arr.size = i - o by omega]
    exact h1
  · rw [if_neg hin]
    obtain ⟨a, v, h1, h2, h3⟩ := h.2 i hi
    refine ⟨a, v, h1, ?_, h3⟩
    simp only [List.getElem?_toArray]
    by_cases hlo : i < o
    · rw [List.append_assoc, List.getElem?_append_left (by simp; omega), List.getElem?_take_of_lt (by omega)]
      simpa using h2
    · rw [List.getElem?_append_right (by simp; omega)]
      simp only [List.length_append, List.length_take, Array.length_toList, List.getElem?_drop]
      rw [show sh + o + us.length + (sh + i - (min (sh + o) arr.size + us.length)) = sh + i by omega]
      simpa using h2

theorem writeAll_ok (h : Rel φ s w) {b o : Nat} {vs : List AV} {s' : St} (hw : writeAll s b o vs = some s') {us : List Value} (hv : VRs φ vs us) {r sh : Nat} (hr : φ.blk b = some (r, sh)) :
    ∃ w', (storeCells ⟨r, sh + o, none⟩ us 0).run P w = .ok () w' ∧ Stp φ s w φ s' w' ∧ Rel φ s' w' := by
  unfold writeAll at hw
  split at hw
  · rename_i c n tl hb
    split at hw
    · rename_i hcond
      simp at hw
      subst hw
      simp only [Bool.and_eq_true] at hcond
      have hn := ble_true hcond.2
      obtain ⟨r', sh', arr, e, fz, h1, h2, h3, h4⟩ := h.cells hb
      rw [hr] at h1
      simp at h1
      obtain ⟨rfl, rfl⟩ := h1
      obtain ⟨h5, h6⟩ := h3.write hv hn
      have hl := hv.length
      have hfz : fz = (0, 0) ∨ arr.size ≤ fz.1 := by
        rcases h4 with ⟨_, h4⟩ | ⟨_, _, _, _, _, _, h4 | h4⟩
        · exact .inl h4
        · exact .inl h4
        · exact .inr h4.2
      have hrun := storeCells_run (P := P) r (sh + o) e fz us 0 arr w h2 hfz (by have := h3.1; omega) (ones_ok hcond.1 hv)
      rw [setRow_eq h2] at hrun
      simp only [Nat.add_zero] at hrun
      have hput := h.put_old (b := b) (r := r) (sh := sh) (o := .cells (c.setAll o vs) n tl) (ro := .cells (arr.toList.take (sh + o) ++ us ++ arr.toList.drop (sh + o + us.length)).toArray e fz) (by simp [hb]) hr (by
        rcases h4 with ⟨rfl, rfl⟩ | ⟨k, z, cp, rfl, hk, hs, hf⟩
        · exact .cells h5
        · exact .tail h5 hk (by rw [h6]; exact hs) (by rw [h6]; exact hf))
      exact ⟨_, hrun, hput.2, hput.1⟩
    · simp at hw
  · simp at hw

variable (hD : TabOk P D)
include hD

theorem loadA_ok (h : Rel φ s w) {t : TypeId} {p a : AV} {pv : Value} (hp : VR φ p pv) (hl : loadA D s t p = some a) :
    ∃ u, VR φ a u ∧ (Instr.loadAt t pv).run P w = .ok u w := by
  unfold loadA at hl
  split at hl
  · rename_i i b o hi
    cases hp with
    | ptr hr =>
      rename_i r sh
      split at hl
      · rename_i c n tl hb
        split at hl
        · rename_i fs hd
          split at hl
          · rename_i hn
            simp only [Option.map_eq_some_iff] at hl
            obtain ⟨l, hl, rfl⟩ := hl
            obtain ⟨us, h1, h2, h3⟩ := read_cells (P := P) h hb (ble_true hn) hl hr
            exact ⟨_, .agg h1, by simp [Instr.loadAt, Instr.sureAddr, loadVar, run_agg hD hi, hd, TD.isAgg, run_size hD hi, h3]⟩
          · simp at hl
        · rename_i k e hd
          split at hl
          · rename_i hn
            simp only [Option.map_eq_some_iff] at hl
            obtain ⟨l, hl, rfl⟩ := hl
            obtain ⟨us, h1, h2, h3⟩ := read_cells (P := P) h hb (ble_true hn) hl hr
            exact ⟨_, .agg h1, by simp [Instr.loadAt, Instr.sureAddr, loadVar, run_agg hD hi, hd, TD.isAgg, run_size hD hi, h3]⟩
          · simp at hl
        · rename_i hd1 hd2
          have hagg : i.d.isAgg = false := by
            unfold TD.isAgg
            split
            · rename_i fs hd; exact absurd hd (by simpa using hd1 fs)
            · rename_i k e hd; exact absurd hd (by simpa using hd2 k e)
            · rfl
          split at hl
          · rename_i hn
            obtain ⟨u, h1, h2⟩ := read_one (P := P) h hb (blt_true hn) hl hr
            refine ⟨u, h1, ?_⟩
            simp only [Instr.loadAt, Instr.sureAddr, loadVar, Sem.run_bind, Sem.run_pure, Result.andThen_ok, run_agg hD hi, hagg]
            simpa using h2
          · simp at hl
      · simp at hl
  · simp at hl

theorem storeA_ok (h : Rel φ s w) {t : TypeId} {p a : AV} {pv av : Value} {s' : St} (hp : VR φ p pv) (ha : VR φ a av) (hl : storeA D s t p a = some s') :
    ∃ w', (Instr.storeAt t pv av).run P w = .ok () w' ∧ Stp φ s w φ s' w' ∧ Rel φ s' w' := by
  unfold storeA at hl
  split at hl
  · rename_i i b o hi
    cases hp with
    | ptr hr =>
      simp only [] at hl
      split at hl
      · rename_i hn
        have hc := ha.cells
        obtain ⟨w', h1, h2, h3⟩ := writeAll_ok (P := P) h hl hc hr
        refine ⟨w', ?_, h2, h3⟩
        have hsz : av.cells.size = i.size := by
          have := hc.length
          have := beq_true hn
          simp at *
          omega
        simp [Instr.storeAt, Instr.sureAddr, storeVar, run_size hD hi, hsz, h1]
      · simp at hl
  · simp at hl

end Go.Eng
