/-
  The abstract interpreter, its soundness: makeSlice, buildSlice, copy, clear, conversions, other operations.
-/
import Derived.Test.YtabjigkabgecaaaGreatDoorEng15
namespace Go.Eng
variable {P : Program} {D : Tab} {φ : Phi} {s : St} {w : World} {T : PT AV} {ρ : Operand → Value}

section
variable (hD : TabOk P D)
include hD

theorem makeSliceA_ok (hr : Rel φ s w) {t : TypeId} {l c v : AV} {lv cv : Value} {s' : St} (hl : VR φ l lv) (hc : VR φ c cv) (h : makeSliceA D s t l c = some (v, s')) :
    ∃ φ' u w', VR φ' v u ∧ (Instr.makeSlice t lv cv).run P w = .ok u w' ∧ Stp φ s w φ' s' w' ∧ Rel φ' s' w' := by
  unfold makeSliceA at h
  split at h
  · rename_i i k n k' m hi
    split at h
    · rename_i e hid
      obtain ⟨de, _, hde, hu⟩ := run_under hD hi w
      rw [hid] at hde
      obtain rfl : de = .slice e := by cases de <;> simp [tdOf] at hde; rw [hde]
      split at h
      · rename_i ei hei
        split at h
        · rename_i z hz
          split at h
          · rename_i hcond
            simp only [Bool.and_eq_true, decide_eq_true_eq] at hcond
            obtain ⟨⟨⟨⟨h0, h1⟩, h2⟩, h3⟩, h4⟩ := hcond
            have h3 := ble_true h3
            have hzl := beq_true h4
            unfold pow48 at h3
            simp at h
            obtain ⟨rfl, rfl⟩ := h
            cases hl; cases hc
            obtain ⟨ti, t1, t2, t3, t4, t5⟩ := run_info hD hei w
            obtain ⟨zv, z1, z2⟩ := run_zero hD hei hz w
            have hzc := (constAV_ok (φ := φ) z2).cells
            have hzs : zv.cells.toList.length = ei.size := by rw [← hzc.length]; exact hzl
            have hzeros := zeros_ok hzc m.toNat
            obtain ⟨φ', w', g1, g2, g3, g4⟩ := new_cells (P := P) hr hzeros e
            have hm0 : 0 ≤ m := by omega
            have wl : IntKind.i64.wrap n = n := by unfold IntKind.wrap; simp [IntKind.bits, IntKind.signed]; omega
            have wm : IntKind.i64.wrap m = m := by unfold IntKind.wrap; simp [IntKind.bits, IntKind.signed]; omega
            have hb : ¬ ((ti.bytes : Int) * m > 2 ^ 48) := by
              rw [t3] at h3
              have : (ti.bytes : Int) * m ≤ (ti.bytes : Int) * 100000 := Int.mul_le_mul_of_nonneg_left h2 (by omega)
              omega
            have hnle : ¬ n > m := by omega
            have hn0 : ¬ n < 0 := by omega
            have hm0' : ¬ m < 0 := by omega
            refine ⟨φ', _, w', VR.slice g4 (.exact m.toNat) 0 n.toNat (by omega), ?_, g2, g3⟩
            have hcond2 : ((decide (m < 0) || decide ((ti.bytes : Int) * m > 2 ^ 48)) || decide (n < 0) || decide (n > m)) = false := by
              simp [hm0', hn0, hnle]
              omega
            have hsz := run_size hD hei w
            simp only [Instr.makeSlice, Sem.run_bind, hu, Result.andThen_ok, asInt, asIntOf, Sem.run_pure, t5, wl, wm, hcond2, Bool.false_eq_true, if_false, run_askRoom, hsz]
            by_cases hz0 : m.toNat * ei.size = 0
            · have : (zerosV zv.cells.toList m.toNat).length = 0 := by rw [zerosV_length, hzs]; exact hz0
              have h0' : zerosV zv.cells.toList m.toNat = [] := by cases hq : zerosV zv.cells.toList m.toNat <;> simp_all
              rw [h0'] at g1
              have e0 : Array.range 0 = #[] := Array.toList_inj.1 (by simp)
              simp only [hz0, if_true, e0]
              simp [g1]
            · simp only [hz0, if_false, Sem.run_bind, z1, Sem.run_pure, Result.andThen_ok]
              have hrange := range_map_zeros zv.cells.toList m.toNat ei.size hzs
              simp only [Array.toArray_toList] at hrange
              rw [hrange, g1]
              simp
          · simp at h
        · simp at h
      · simp at h
    · simp at h
  · simp at h

theorem buildSliceA_ok (hr : Rel φ s w) {t : TypeId} {n : Nat} {vs : List AV} {us : List Value} {ps : Array (Nat × Operand)} {v : AV} {s' : St} (hv : VRs φ vs us) (hul : us = ps.toList.map fun x => ρ x.2)
    (h : buildSliceA D s t n (ps.toList.map (·.1)) vs = some (v, s')) :
    ∃ φ' u w', VR φ' v u ∧ (Instr.buildSlice t n (ps.map fun (i, x) => (i, ρ x))).run P w = .ok u w' ∧ Stp φ s w φ' s' w' ∧ Rel φ' s' w' := by
  unfold buildSliceA at h
  split at h
  · rename_i i hi
    split at h
    · rename_i e hid
      obtain ⟨de, _, hde, hu⟩ := run_under hD hi w
      rw [hid] at hde
      obtain rfl : de = .slice e := by cases de <;> simp [tdOf] at hde; rw [hde]
      split at h
      · rename_i ei hei
        split at h
        · rename_i z hz
          split at h
          · rename_i hcond
            simp only [Bool.and_eq_true] at hcond
            have h1 := ble_true hcond.1
            have hzl := beq_true hcond.2
            split at h
            · rename_i cs hf
              simp at h
              obtain ⟨rfl, rfl⟩ := h
              obtain ⟨zv, z1, z2⟩ := run_zero hD hei hz w
              have hzc := (constAV_ok (φ := φ) z2).cells
              have hzs : zv.cells.toList.length = ei.size := by rw [← hzc.length]; exact hzl
              have hzeros := zeros_ok hzc n
              have hlen : vs.length = ps.toList.length := by rw [hv.length, hul]; simp
              have hlp : ps.toList.length = ps.size := by simp
              obtain ⟨us', g1, g2⟩ := fillP_ok (place := fun i => some (i * ei.size, ei.size)) (range_places n ei.size) ((ps.toList.map (·.1)).zip vs) (ps.toList.map fun x => (x.1, ρ x.2)) (zeros z.cells n) (zerosV zv.cells.toList n) cs hzeros (by
                rw [List.map_fst_zip (by simp; omega)]; simp) (by
                rw [List.map_snd_zip (by simp; omega)]
                have : (ps.toList.map fun x => (x.1, ρ x.2)).map (·.2) = us := by rw [hul]; simp
                rw [this]; exact hv) hf
              obtain ⟨φ', w', q1, q2, q3, q4⟩ := new_cells (P := P) hr g2 e
              refine ⟨φ', _, w', VR.slice q4 (.exact n) 0 n (Nat.le_refl _), ?_, q2, q3⟩
              have hsz := run_size hD hei w
              have hbig : ¬ n * ei.size > 2 ^ 24 := by omega
              have e1 : (ps.map fun (i, x) => (i, ρ x)).toList = ps.toList.map fun x => (x.1, ρ x.2) := by simp
              simp only [Instr.buildSlice, Sem.run_bind, hu, Result.andThen_ok, hsz, hbig, if_false, e1]
              by_cases hz0 : n * ei.size = 0
              · have : (zerosV zv.cells.toList n).length = 0 := by rw [zerosV_length, hzs]; exact hz0
                have h0' : zerosV zv.cells.toList n = [] := by cases hq : zerosV zv.cells.toList n <;> simp_all
                rw [h0'] at g1
                have e0 : Array.range 0 = #[] := Array.toList_inj.1 (by simp)
                have g1' : Instr.fill (fun i => some (i * ei.size, ei.size)) ((Array.range 0).map fun i => (#[] : Array Value)[i % (#[] : Array Value).size]!) (ps.toList.map fun x => (x.1, ρ x.2)) = some us'.toArray := by
                  rw [e0]; simpa using g1
                simp only [hz0, if_true, Sem.run_pure, Result.andThen_ok, g1', Sem.run_bind, q1]
              · have hrange := range_map_zeros zv.cells.toList n ei.size hzs
                simp only [Array.toArray_toList] at hrange
                simp only [hz0, if_false, Sem.run_bind, z1, Sem.run_pure, Result.andThen_ok, hrange, g1, q1]
            · simp at h
          · simp at h
        · simp at h
      · simp at h
    · simp at h
  · simp at h

end
end Go.Eng
