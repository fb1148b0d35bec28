/-
  The abstract interpreter, its soundness: operations that make a block, whatever the block is called.
-/
import Derived.Test.YtabjigkabgecaaaGreatDoorEng24
namespace Go.Eng
variable {P : Program} {D : Tab} {φ : Phi} {s s1 : St} {w : World} {T : PT AV} {ρ : Operand → Value}

/-- A block is made and nothing else: what it holds, and what is handed back, whichever name it gets. -/
def RawR (φ : Phi) (s : St) (w : World) (v : AV) (s' : St) (run : Value → World → Prop) : Prop :=
  ∃ ob ro u, s'.h = s.h.set s.nx ob ∧ OR φ 0 ob ro ∧ (∀ φ' : Phi, φ'.blk s.nx = some (w.heap.size, 0) → VR φ' v u) ∧ run u { w with heap := w.heap.push ro }

theorem cells_raw (w : World) {φ : Phi} {vs : List AV} {us : List Value} (_ : VRs φ vs us) (e : TypeId) : ∃ w', (newRow e us.toArray).run P w = .ok ⟨w.heap.size, 0, none⟩ w' ∧ w' = { w with heap := w.heap.push (.cells us.toArray e (0, 0)) } :=
  ⟨_, by simp [newRow], rfl⟩

theorem CellsOR {φ : Phi} {vs : List AV} {us : List Value} (hv : VRs φ vs us) {e : TypeId} : OR φ 0 (.cells (PT.setAll .nil 0 vs) vs.length none) (.cells us.toArray e (0, 0)) := .cells (CellsR.of_list hv)

theorem RawR.mk {φ : Phi} {s : St} {w : World} {v : AV} {vs : List AV} {ro : Obj} {u : Value} {run : Value → World → Prop} (ho : OR φ 0 (.cells (PT.setAll .nil 0 vs) vs.length none) ro)
    (hv : ∀ φ' : Phi, φ'.blk s.nx = some (w.heap.size, 0) → VR φ' v u) (h : run u { w with heap := w.heap.push ro }) : RawR φ s w v (newCells s vs).2 run :=
  ⟨_, ro, u, rfl, ho, hv, h⟩

section
variable (hD : TabOk P D)
include hD

theorem makeSliceA_raw (w : World) {t : TypeId} {l c v : AV} {lv cv : Value} {s' : St} (hl : VR φ l lv) (hc : VR φ c cv) (h : makeSliceA D s t l c = some (v, s')) :
    RawR φ s w v s' fun u w' => (Instr.makeSlice t lv cv).run P w = .ok u w' := by
  unfold makeSliceA at h
  split at h
  · rename_i i k n k' m hi
    split at h
    · rename_i e hid
      obtain ⟨de, _, hde, hu⟩ := run_under hD hi w
      rw [hid] at hde
      obtain rfl : de = .slice e := by cases de <;> simp [tdOf] at hde; rw [hde]
      split at h
      · rename_i ei hei
        split at h
        · rename_i z hz
          split at h
          · rename_i hcond
            simp only [Bool.and_eq_true, decide_eq_true_eq] at hcond
            obtain ⟨⟨⟨⟨h0, h1⟩, h2⟩, h3⟩, h4⟩ := hcond
            have h3 := ble_true h3
            have hzl := beq_true h4
            unfold pow48 at h3
            simp at h
            obtain ⟨rfl, rfl⟩ := h
            cases hl; cases hc
            obtain ⟨ti, t1, t2, t3, t4, t5⟩ := run_info hD hei w
            obtain ⟨zv, z1, z2⟩ := run_zero hD hei hz w
            have hzc := (constAV_ok (φ := φ) z2).cells
            have hzs : zv.cells.toList.length = ei.size := by rw [← hzc.length]; exact hzl
            have hzeros := zeros_ok hzc m.toNat
            obtain ⟨w', g1, g2⟩ := cells_raw (P := P) w hzeros e
            subst g2
            have hm0 : 0 ≤ m := by omega
            have wl : IntKind.i64.wrap n = n := by unfold IntKind.wrap; simp [IntKind.bits, IntKind.signed]; omega
            have wm : IntKind.i64.wrap m = m := by unfold IntKind.wrap; simp [IntKind.bits, IntKind.signed]; omega
            have hb : ¬ ((ti.bytes : Int) * m > 2 ^ 48) := by
              rw [t3] at h3
              have : (ti.bytes : Int) * m ≤ (ti.bytes : Int) * 100000 := Int.mul_le_mul_of_nonneg_left h2 (by omega)
              omega
            have hnle : ¬ n > m := by omega
            have hn0 : ¬ n < 0 := by omega
            have hm0' : ¬ m < 0 := by omega
            refine RawR.mk (CellsOR (e := e) hzeros) (fun φ' hb => VR.slice hb (.exact m.toNat) 0 n.toNat (by omega)) ?_
            have hcond2 : ((decide (m < 0) || decide ((ti.bytes : Int) * m > 2 ^ 48)) || decide (n < 0) || decide (n > m)) = false := by
              simp [hm0', hn0, hnle]
              omega
            have hsz := run_size hD hei w
            simp only [Instr.makeSlice, Sem.run_bind, hu, Result.andThen_ok, asInt, asIntOf, Sem.run_pure, t5, wl, wm, hcond2, Bool.false_eq_true, if_false, run_askRoom, hsz]
            by_cases hz0 : m.toNat * ei.size = 0
            · have : (zerosV zv.cells.toList m.toNat).length = 0 := by rw [zerosV_length, hzs]; exact hz0
              have h0' : zerosV zv.cells.toList m.toNat = [] := by cases hq : zerosV zv.cells.toList m.toNat <;> simp_all
              rw [h0'] at g1
              have e0 : Array.range 0 = #[] := Array.toList_inj.1 (by simp)
              simp only [hz0, if_true, e0]
              simp [g1, h0']
            · simp only [hz0, if_false, Sem.run_bind, z1, Sem.run_pure, Result.andThen_ok]
              have hrange := range_map_zeros zv.cells.toList m.toNat ei.size hzs
              simp only [Array.toArray_toList] at hrange
              rw [hrange, g1]
              simp
          · simp at h
        · simp at h
      · simp at h
    · simp at h
  · simp at h

theorem buildSliceA_raw (w : World) {t : TypeId} {n : Nat} {vs : List AV} {us : List Value} {ps : Array (Nat × Operand)} {v : AV} {s' : St} (hv : VRs φ vs us) (hul : us = ps.toList.map fun x => ρ x.2)
    (h : buildSliceA D s t n (ps.toList.map (·.1)) vs = some (v, s')) :
    RawR φ s w v s' fun u w' => (Instr.buildSlice t n (ps.map fun (i, x) => (i, ρ x))).run P w = .ok u w' := by
  unfold buildSliceA at h
  split at h
  · rename_i i hi
    split at h
    · rename_i e hid
      obtain ⟨de, _, hde, hu⟩ := run_under hD hi w
      rw [hid] at hde
      obtain rfl : de = .slice e := by cases de <;> simp [tdOf] at hde; rw [hde]
      split at h
      · rename_i ei hei
        split at h
        · rename_i z hz
          split at h
          · rename_i hcond
            simp only [Bool.and_eq_true] at hcond
            have h1 := ble_true hcond.1
            have hzl := beq_true hcond.2
            split at h
            · rename_i cs hf
              simp at h
              obtain ⟨rfl, rfl⟩ := h
              obtain ⟨zv, z1, z2⟩ := run_zero hD hei hz w
              have hzc := (constAV_ok (φ := φ) z2).cells
              have hzs : zv.cells.toList.length = ei.size := by rw [← hzc.length]; exact hzl
              have hzeros := zeros_ok hzc n
              have hlen : vs.length = ps.toList.length := by rw [hv.length, hul]; simp
              have hlp : ps.toList.length = ps.size := by simp
              obtain ⟨us', g1, g2⟩ := fillP_ok (place := fun i => some (i * ei.size, ei.size)) (range_places n ei.size) ((ps.toList.map (·.1)).zip vs) (ps.toList.map fun x => (x.1, ρ x.2)) (zeros z.cells n) (zerosV zv.cells.toList n) cs hzeros (by
                rw [List.map_fst_zip (by simp; omega)]; simp) (by
                rw [List.map_snd_zip (by simp; omega)]
                have : (ps.toList.map fun x => (x.1, ρ x.2)).map (·.2) = us := by rw [hul]; simp
                rw [this]; exact hv) hf
              obtain ⟨w', q1, q2⟩ := cells_raw (P := P) w g2 e
              subst q2
              refine RawR.mk (CellsOR (e := e) g2) (fun φ' hb => VR.slice hb (.exact n) 0 n (Nat.le_refl _)) ?_
              have hsz := run_size hD hei w
              have hbig : ¬ n * ei.size > 2 ^ 24 := by omega
              have e1 : (ps.map fun (i, x) => (i, ρ x)).toList = ps.toList.map fun x => (x.1, ρ x.2) := by simp
              simp only [Instr.buildSlice, Sem.run_bind, hu, Result.andThen_ok, hsz, hbig, if_false, e1]
              by_cases hz0 : n * ei.size = 0
              · have : (zerosV zv.cells.toList n).length = 0 := by rw [zerosV_length, hzs]; exact hz0
                have h0' : zerosV zv.cells.toList n = [] := by cases hq : zerosV zv.cells.toList n <;> simp_all
                rw [h0'] at g1
                have e0 : Array.range 0 = #[] := Array.toList_inj.1 (by simp)
                have g1' : Instr.fill (fun i => some (i * ei.size, ei.size)) ((Array.range 0).map fun i => (#[] : Array Value)[i % (#[] : Array Value).size]!) (ps.toList.map fun x => (x.1, ρ x.2)) = some us'.toArray := by
                  rw [e0]; simpa using g1
                simp only [hz0, if_true, Sem.run_pure, Result.andThen_ok, g1', Sem.run_bind, q1]
              · have hrange := range_map_zeros zv.cells.toList n ei.size hzs
                simp only [Array.toArray_toList] at hrange
                simp only [hz0, if_false, Sem.run_bind, z1, Sem.run_pure, Result.andThen_ok, hrange, g1, q1]
            · simp at h
          · simp at h
        · simp at h
      · simp at h
    · simp at h
  · simp at h


theorem allocA_raw (φ : Phi) (w : World) {t : TypeId} {v : AV} {s' : St} (h : allocA D s t = some (v, s')) :
    RawR φ s w v s' fun u w' => (Instr.alloc t true (.tuple #[])).run P w = .ok u w' := by
  unfold allocA at h
  split at h
  · rename_i i hi
    split at h
    · rename_i z hz
      simp at h
      obtain ⟨rfl, rfl⟩ := h
      obtain ⟨zv, z1, z2⟩ := run_zero hD hi hz w
      have hzc := (constAV_ok (φ := φ) z2).cells
      obtain ⟨w', g1, g2⟩ := cells_raw (P := P) w hzc t
      subst g2
      refine RawR.mk (CellsOR (e := t) hzc) (fun φ' hb => .ptr hb 0) ?_
      have g1' := g1
      simp only [Array.toArray_toList] at g1'
      simp [Instr.alloc, z1, newVar, g1']
    · simp at h
  · simp at h

theorem alloc_raw {o : Oper} (hk : kindOf D o.op = .alloc) {v : AV} {s' : St} (h : opA D T s o.op = some (.val v s')) (hr : Rel φ s1 w) (he : EvR φ T ρ) :
    RawR φ s w v s' fun u w' => (execOp ρ o).run P w = .ok (.value u) w' := by
  obtain ⟨dst, op, ty, pos, after, guard⟩ := o
  simp only at h hk
  cases op <;> simp only [opA] at h <;> first | (simp at h; done) | (unfold kindOf at hk; simp at hk; done) | skip
  case alloc t =>
    obtain ⟨v, s', hv, h⟩ := v2_ok h
    simp at h
    obtain ⟨rfl, rfl⟩ := h
    obtain ⟨ob, ro, u, g1, g2, g3, g4⟩ := allocA_raw hD φ w hv
    exact ⟨ob, ro, u, g1, g2, g3, by simp [execOp, g4]⟩
  case box t x =>
    obtain ⟨a, h1, h⟩ := ev1_ok h
    obtain ⟨v, s', hv, h⟩ := v2_ok h
    simp at h hv
    obtain ⟨rfl, rfl⟩ := h
    have hc := (ev_ok hr he h1).cells
    unfold boxA at hv
    simp at hv
    obtain ⟨rfl, rfl⟩ := hv
    obtain ⟨w', g1, g2⟩ := cells_raw (P := P) w hc t
    subst g2
    refine RawR.mk (CellsOR (e := t) hc) (fun φ' hb => .ptr hb 0) ?_
    have g1' := g1
    simp only [Array.toArray_toList] at g1'
    simp [execOp, Instr.box, newVar, g1']
  case buildSlice t n ps =>
    split at h
    · rename_i vs hvs
      obtain ⟨v, s', hv, h⟩ := v2_ok h
      simp at h
      obtain ⟨rfl, rfl⟩ := h
      have hr' := evAll_ok hr he hvs
      obtain ⟨ob, ro, u, g1, g2, g3, g4⟩ := buildSliceA_raw (ρ := ρ) (ps := ps) hD w hr' (by simp) hv
      exact ⟨ob, ro, u, g1, g2, g3, by simp [execOp]; simp at g4; rw [g4]; rfl⟩
    · simp at h
  case makeMap t r =>
    cases r with
    | some r => simp at h
    | none =>
      simp only at h
      obtain ⟨v, s', hv, h⟩ := v2_ok h
      simp at hv h
      obtain ⟨rfl, rfl⟩ := hv
      obtain ⟨rfl, rfl⟩ := h
      exact ⟨.map [] 0, .map #[] 0, .map (some w.heap.size), rfl, .map trivial, fun φ' hb => .map hb, by simp [execOp, Instr.makeMap]⟩
  case makeSlice t l c =>
    obtain ⟨a, b, h1, h2, h⟩ := ev2_ok h
    obtain ⟨v, s', hv, h⟩ := v2_ok h
    simp at h
    obtain ⟨rfl, rfl⟩ := h
    obtain ⟨ob, ro, u, g1, g2, g3, g4⟩ := makeSliceA_raw hD w (ev_ok hr he h1) (ev_ok hr he h2) hv
    exact ⟨ob, ro, u, g1, g2, g3, by simp [execOp, g4]⟩
  case convert => unfold kindOf at hk; simp only at hk; split at hk <;> simp at hk
  case binOp o t x y z => cases o <;> simp [kindOf] at hk
  case call c =>
    obtain ⟨callee, args, ats⟩ := c
    cases callee <;> simp only [kindOf] at hk <;> first | (simp at hk; done) | skip
    rename_i b
    cases b <;> simp at hk

end
end Go.Eng
